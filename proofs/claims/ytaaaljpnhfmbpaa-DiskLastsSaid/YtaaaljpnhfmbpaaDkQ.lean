/- Files by rising names, as plain lists: what is found, dropped, put; a disk in memory that has just these. No program in sight but for the last part. Conditions: those of each theorem. -/
import Derived.Test.YtaaaljpnhfmbpaaDkL
import Derived.Test.YtaaaljpnhfmbpaaDkP
namespace Go.Proofs.Ytaaaljpnhfmbpaa
open Go.RowKit
set_option linter.unusedVariables false

theorem bless_eq : ∀ (x y : List UInt8), Op.bytesLess x y = decide (x < y)
  | [], [] => by simp [Op.bytesLess]
  | _ :: _, [] => by simp [Op.bytesLess]
  | [], _ :: _ => by simp [Op.bytesLess]
  | a :: x, b :: y => by
    rw [Op.bytesLess, bless_eq x y]
    simp only [List.cons_lt_cons_iff]
    by_cases h1 : a < b <;> by_cases h2 : a = b <;> by_cases h3 : x < y <;> simp [h1, h2, h3]
/-- one name is less than another -/
def NLt (a b : ByteArray) : Prop := a.data.toList < b.data.toList
instance (a b : ByteArray) : Decidable (NLt a b) := inferInstanceAs (Decidable (a.data.toList < b.data.toList))
theorem less_eq (a b : ByteArray) : Op.bytesLess a.toList b.toList = decide (NLt a b) := by
  rw [bless_eq]
  simp only [ByteArray.toList_eq]
  rfl
theorem ba_ext {a b : ByteArray} (h : a.data.toList = b.data.toList) : a = b := by
  cases a; cases b
  congr 1
  exact Array.toList_inj.1 h
theorem NLt.irrefl (a : ByteArray) : ¬ NLt a a := List.lt_irrefl _
theorem NLt.trans {a b c : ByteArray} (h : NLt a b) (k : NLt b c) : NLt a c := List.lt_trans h k
theorem NLt.tri (a b : ByteArray) : NLt a b ∨ a = b ∨ NLt b a := by
  by_cases h : NLt a b
  · exact .inl h
  · by_cases k : NLt b a
    · exact .inr (.inr k)
    · refine .inr (.inl (ba_ext (List.le_antisymm (List.not_lt.1 k) (List.not_lt.1 h))))
theorem NLt.ne {a b : ByteArray} (h : NLt a b) : a ≠ b := fun e => NLt.irrefl b (e ▸ h)
theorem NLt.asymm {a b : ByteArray} (h : NLt a b) : ¬ NLt b a := fun k => NLt.irrefl a (h.trans k)
theorem leB_of {a b : ByteArray} (h : NLt a b) : Go.leB a.data.toList b.data.toList = true := by
  simp only [Go.leB, decide_eq_true_eq]
  exact List.le_of_lt h

abbrev FL := List FD
def Rise (l : FL) : Prop := l.Pairwise fun x y => NLt x.1 y.1
def findL (l : FL) (k : ByteArray) : Option FD := l.find? fun x => decide (x.1 = k)
def dropL (l : FL) (k : ByteArray) : FL := l.filter fun x => !decide (x.1 = k)
def withL (l : FL) (x : FD) : FL := (dropL l x.1).takeWhile (fun y => decide (NLt y.1 x.1)) ++ x :: (dropL l x.1).dropWhile (fun y => decide (NLt y.1 x.1))
def Names (l : FL) : Prop := (l.map (·.1)).Nodup
theorem Rise.names {l : FL} (h : Rise l) : Names l := by
  unfold Names
  rw [List.Nodup, List.pairwise_map]
  exact h.imp fun h => h.ne
theorem Rise.drop {l : FL} (h : Rise l) (k : ByteArray) : Rise (dropL l k) := h.sublist List.filter_sublist
theorem with_perm (l : FL) (x : FD) : (withL l x).Perm (x :: dropL l x.1) := by
  unfold withL
  refine List.perm_middle.trans ?_
  rw [List.takeWhile_append_dropWhile]
theorem rise_split {l : FL} (h : Rise l) (x : FD) (hx : ∀ y ∈ l, y.1 ≠ x.1) : (∀ y ∈ l.takeWhile (fun y => decide (NLt y.1 x.1)), NLt y.1 x.1) ∧ (∀ y ∈ l.dropWhile (fun y => decide (NLt y.1 x.1)), NLt x.1 y.1) := by
  induction l with
  | nil => exact ⟨(fun y hy => by cases hy), (fun y hy => by cases hy)⟩
  | cons z l ih =>
    have h' := h
    unfold Rise at h
    rw [List.pairwise_cons] at h
    by_cases hz : NLt z.1 x.1
    · rw [List.takeWhile_cons_of_pos (by simpa using hz), List.dropWhile_cons_of_pos (by simpa using hz)]
      obtain ⟨i1, i2⟩ := ih h.2 (fun y hy => hx y (by simp [hy]))
      refine ⟨fun y hy => ?_, i2⟩
      rcases List.mem_cons.1 hy with rfl | hy
      · exact hz
      · exact i1 y hy
    · rw [List.takeWhile_cons_of_neg (by simpa using hz), List.dropWhile_cons_of_neg (by simpa using hz)]
      have hxz : NLt x.1 z.1 := by
        rcases NLt.tri z.1 x.1 with e | e | e
        · exact absurd e hz
        · exact absurd e (hx z (by simp))
        · exact e
      refine ⟨(fun y hy => by cases hy), fun y hy => ?_⟩
      rcases List.mem_cons.1 hy with rfl | hy
      · exact hxz
      · exact hxz.trans (h.1 y hy)
theorem drop_mem {l : FL} {k : ByteArray} {y : FD} (h : y ∈ dropL l k) : y ∈ l ∧ y.1 ≠ k := by
  unfold dropL at h
  rw [List.mem_filter] at h
  exact ⟨h.1, by simpa using h.2⟩
theorem Rise.with {l : FL} (h : Rise l) (x : FD) : Rise (withL l x) := by
  have hd := h.drop x.1
  obtain ⟨s1, s2⟩ := rise_split hd x (fun y hy => (drop_mem hy).2)
  unfold withL Rise
  have hs : Rise ((dropL l x.1).takeWhile (fun y => decide (NLt y.1 x.1)) ++ (dropL l x.1).dropWhile (fun y => decide (NLt y.1 x.1))) := by
    rw [List.takeWhile_append_dropWhile]; exact hd
  unfold Rise at hs
  rw [List.pairwise_append] at hs ⊢
  refine ⟨hs.1, List.pairwise_cons.2 ⟨s2, hs.2.1⟩, fun a ha b hb => ?_⟩
  rcases List.mem_cons.1 hb with rfl | hb
  · exact s1 a ha
  · exact (s1 a ha).trans (s2 b hb)
theorem rise_eq {l m : FL} (h : Rise l) (k : Rise m) (p : l.Perm m) : l = m :=
  List.Perm.eq_of_pairwise (le := fun (x y : FD) => NLt x.1 y.1) (fun a b _ _ h1 h2 => absurd h2 (NLt.asymm h1)) h k p
theorem Names.perm {l m : FL} (h : Names l) (p : l.Perm m) : Names m := by
  unfold Names at *
  exact (List.Perm.nodup_iff (p.map (·.1))).1 h
theorem drop_perm {l m : FL} (p : l.Perm m) (k : ByteArray) : (dropL l k).Perm (dropL m k) := p.filter _
theorem find_mem {l : FL} {k : ByteArray} {x : FD} (h : findL l k = some x) : x ∈ l ∧ x.1 = k := ⟨List.mem_of_find?_eq_some h, by have := List.find?_some h; simpa using this⟩
theorem find_of {l : FL} (hn : Names l) {k : ByteArray} {x : FD} (h : x ∈ l) (hk : x.1 = k) : findL l k = some x := by
  unfold findL
  induction l with
  | nil => cases h
  | cons y l ih =>
    unfold Names at hn ih
    rw [List.map_cons, List.nodup_cons] at hn
    by_cases hy : y.1 = k
    · rw [List.find?_cons_of_pos (by simpa using hy)]
      rcases List.mem_cons.1 h with rfl | h
      · rfl
      · exact absurd (List.mem_map.2 ⟨x, h, hk.trans hy.symm⟩) hn.1
    · rw [List.find?_cons_of_neg (by simpa using hy)]
      rcases List.mem_cons.1 h with rfl | h
      · exact absurd hk hy
      · exact ih hn.2 h
theorem find_none {l : FL} {k : ByteArray} : findL l k = none ↔ ∀ x ∈ l, x.1 ≠ k := by
  unfold findL
  rw [List.find?_eq_none]
  exact ⟨fun h x hx => by simpa using h x hx, fun h x hx => by simpa using h x hx⟩
theorem find_perm {l m : FL} (hn : Names l) (p : l.Perm m) (k : ByteArray) : findL l k = findL m k := by
  cases h : findL l k with
  | none =>
    rw [find_none] at h
    exact (find_none.2 fun x hx => h x (p.mem_iff.2 hx)).symm
  | some x =>
    obtain ⟨h1, h2⟩ := find_mem h
    exact (find_of (hn.perm p) (p.mem_iff.1 h1) h2).symm
theorem drop_none {l : FL} {k : ByteArray} (h : ∀ x ∈ l, x.1 ≠ k) : dropL l k = l := by
  unfold dropL
  rw [List.filter_eq_self]
  intro x hx
  simpa using h x hx
theorem drop_split {l1 l2 : FL} {x : FD} (hn : Names (l1 ++ x :: l2)) : dropL (l1 ++ x :: l2) x.1 = l1 ++ l2 := by
  unfold Names at hn
  rw [List.map_append, List.map_cons, List.nodup_append, List.nodup_cons] at hn
  obtain ⟨_, ⟨h2, _⟩, h3⟩ := hn
  unfold dropL
  rw [List.filter_append, List.filter_cons_of_neg (by simp)]
  congr 1
  · exact drop_none fun y hy e => h3 y.1 (List.mem_map.2 ⟨y, hy, rfl⟩) x.1 (by simp) e
  · exact drop_none fun y hy e => h2 (List.mem_map.2 ⟨y, hy, e⟩)

/-- files without one, with one -/
def delF : List FP → ByteArray → List FP
  | [], _ => []
  | f :: r, k => if f.name = k then r else f :: delF r k
def putF : List FP → FP → List FP
  | [], x => [x]
  | f :: r, x => if f.name = x.name then x :: r else f :: putF r x
theorem del_fkv (fs : List FP) (k : ByteArray) : delS (fs.map fkv) k = (delF fs k).map fkv := by
  induction fs with
  | nil => rfl
  | cons f r ih =>
    unfold delF
    rw [List.map_cons]
    unfold delS
    by_cases h : f.name = k
    · rw [if_pos h, if_pos (show (fkv f).1 = k from h)]
    · rw [if_neg h, if_neg (show ¬ (fkv f).1 = k from h), ih]; rfl
theorem put_fkv (fs : List FP) (x : FP) : putS (fs.map fkv) x.name (.pointer (some ⟨x.p, 0, none⟩)) = (putF fs x).map fkv := by
  induction fs with
  | nil => rfl
  | cons f r ih =>
    unfold putF
    rw [List.map_cons]
    unfold putS
    by_cases h : f.name = x.name
    · rw [if_pos h, if_pos (show (fkv f).1 = x.name from h)]; rfl
    · rw [if_neg h, if_neg (show ¬ (fkv f).1 = x.name from h), ih]; rfl
theorem del_sub (fs : List FP) (k : ByteArray) : (delF fs k).Sublist fs := by
  induction fs with
  | nil => exact .slnil
  | cons f r ih =>
    unfold delF
    split
    · exact List.sublist_cons_self _ _
    · exact ih.cons_cons _
theorem put_mem {fs : List FP} {x y : FP} (h : y ∈ putF fs x) : y = x ∨ y ∈ fs := by
  induction fs with
  | nil => exact .inl (List.mem_singleton.1 h)
  | cons f r ih =>
    unfold putF at h
    split at h
    · rcases List.mem_cons.1 h with h | h
      · exact .inl h
      · exact .inr (by simp [h])
    · rcases List.mem_cons.1 h with h | h
      · exact .inr (by simp [h])
      · rcases ih h with h | h
        · exact .inl h
        · exact .inr (by simp [h])
theorem put_pair {R : FP → FP → Prop} (hs : ∀ a b, R a b → R b a) {fs : List FP} {x : FP} (h : fs.Pairwise R) (hx : ∀ y ∈ fs, R x y) : (putF fs x).Pairwise R := by
  induction fs with
  | nil => exact List.pairwise_singleton _ _
  | cons f r ih =>
    rw [List.pairwise_cons] at h
    unfold putF
    split
    · exact List.pairwise_cons.2 ⟨fun y hy => hx y (by simp [hy]), h.2⟩
    · refine List.pairwise_cons.2 ⟨fun y hy => ?_, ih h.2 (fun y hy => hx y (by simp [hy]))⟩
      rcases put_mem hy with rfl | hy
      · exact hs _ _ (hx f (by simp))
      · exact h.1 y hy
theorem fnames {fs : List FP} {l : FL} (hp : (fs.map fdat).Perm l) (hl : Rise l) : Names (fs.map fdat) := hl.names.perm hp.symm
theorem del_perm {fs : List FP} (hn : Names (fs.map fdat)) (k : ByteArray) : ((delF fs k).map fdat).Perm (dropL (fs.map fdat) k) := by
  induction fs with
  | nil => exact .nil
  | cons f r ih =>
    have hn' := hn
    unfold Names at hn
    rw [List.map_cons, List.map_cons, List.nodup_cons] at hn
    unfold delF
    by_cases h : f.name = k
    · rw [if_pos h]
      subst h
      have : dropL ((f :: r).map fdat) f.name = r.map fdat := drop_split (l1 := []) (x := fdat f) hn'
      rw [this]
    · rw [if_neg h, List.map_cons, List.map_cons]
      unfold dropL
      rw [List.filter_cons_of_pos (by show (!decide (f.name = _)) = true; simpa using h)]
      exact (ih hn.2).cons _
theorem put_perm {fs : List FP} (hn : Names (fs.map fdat)) (x : FP) : ((putF fs x).map fdat).Perm (fdat x :: dropL (fs.map fdat) x.name) := by
  induction fs with
  | nil => exact .refl _
  | cons f r ih =>
    have hn' := hn
    unfold Names at hn
    rw [List.map_cons, List.map_cons, List.nodup_cons] at hn
    unfold putF
    by_cases h : f.name = x.name
    · rw [if_pos h, List.map_cons]
      have : dropL ((f :: r).map fdat) f.name = r.map fdat := drop_split (l1 := []) (x := fdat f) hn'
      rw [← h, this]
    · rw [if_neg h, List.map_cons, List.map_cons]
      unfold dropL
      rw [List.filter_cons_of_pos (by show (!decide (f.name = _)) = true; simpa using h)]
      exact ((ih hn.2).cons _).trans (List.Perm.swap _ _ _)
theorem find_fs (fs : List FP) (k : ByteArray) : (fs.find? fun f => decide (f.name = k)).map fdat = findL (fs.map fdat) k := by
  unfold findL
  rw [List.find?_map]
  rfl
theorem upd_perm {fs : List FP} (hn : Names (fs.map fdat)) (ha : fs.Pairwise FApart) {f f' : FP} (hf : f ∈ fs) (hp : f'.p = f.p) (hnm : f'.name = f.name) : ((updF fs f').map fdat).Perm (fdat f' :: dropL (fs.map fdat) f'.name) := by
  obtain ⟨l1, l2, rfl⟩ := List.append_of_mem hf
  rw [upd_split hp ha, List.map_append, List.map_cons, List.map_append, List.map_cons] at *
  rw [hnm, show f.name = (fdat f).1 from rfl, drop_split hn]
  exact List.perm_middle

/-- a disk in memory that has just these files -/
def DKs (B : Nat) (w : World) (g r : Nat) (l : FL) (st : Int) (en : Bool) (lf : Int) : Prop := ∃ fs, DK B w g r fs st en lf ∧ (fs.map fdat).Perm l ∧ Rise l
theorem DKs.below {B : Nat} {w w' : World} {g r : Nat} {l : FL} {st : Int} {en : Bool} {lf : Int} (h : DKs B w g r l st en lf) (hb : Below w.heap.size w w') : DKs B w' g r l st en lf := by
  obtain ⟨fs, h1, h2, h3⟩ := h
  exact ⟨fs, h1.below hb, h2, h3⟩
theorem DKs.rise {B : Nat} {w : World} {g r : Nat} {l : FL} {st : Int} {en : Bool} {lf : Int} (h : DKs B w g r l st en lf) : Rise l := by
  obtain ⟨fs, h1, h2, h3⟩ := h
  exact h3
theorem FRow.len {B : Nat} {w : World} {f : FP} (h : FRow B w f) : f.b.length = f.n := (Reads.of_zown h.2.2.1).blen
theorem DKs.sync_le {B : Nat} {w : World} {g r : Nat} {l : FL} {st : Int} {en : Bool} {lf : Int} (h : DKs B w g r l st en lf) : ∀ x ∈ l, x.2.2 ≤ x.2.1.length := by
  obtain ⟨fs, h1, h2, h3⟩ := h
  intro x hx
  obtain ⟨f, hf, rfl⟩ := List.mem_map.1 (h2.mem_iff.2 hx)
  have := h1.2.2.2.2.1 f hf
  show f.sy ≤ f.b.length
  rw [this.len]
  exact this.2.2.2
theorem DK.toS {B : Nat} {w : World} {g r : Nat} {fs : List FP} {l : FL} {st : Int} {en : Bool} {lf : Int} (h : DK B w g r fs st en lf) (hp : (fs.map fdat).Perm l) (hl : Rise l) : DKs B w g r l st en lf := ⟨fs, h, hp, hl⟩
end Go.Proofs.Ytaaaljpnhfmbpaa
