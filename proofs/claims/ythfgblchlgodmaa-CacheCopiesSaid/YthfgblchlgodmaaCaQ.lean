/- Entries by rising keys, as plain lists: what is found, dropped, put; a cache in memory that has just these; what a call leaves as it was. Conditions: those of each theorem. -/
import Derived.Test.YthfgblchlgodmaaCaF
import Derived.Test.YthfgblchlgodmaaCaIt
import Derived.RangeFuncOwn
namespace Go.Proofs.Ythfgblchlgodmaa
open Go.RowKit
set_option linter.unusedVariables false

theorem bless_eq : ∀ (x y : List UInt8), Op.bytesLess x y = decide (x < y)
  | [], [] => by simp [Op.bytesLess]
  | _ :: _, [] => by simp [Op.bytesLess]
  | [], _ :: _ => by simp [Op.bytesLess]
  | a :: x, b :: y => by
    rw [Op.bytesLess, bless_eq x y]
    simp only [List.cons_lt_cons_iff]
    by_cases h1 : a < b <;> by_cases h2 : a = b <;> by_cases h3 : x < y <;> simp [h1, h2, h3]
/-- one name is less than another -/
def NLt (a b : ByteArray) : Prop := a.data.toList < b.data.toList
instance (a b : ByteArray) : Decidable (NLt a b) := inferInstanceAs (Decidable (a.data.toList < b.data.toList))
theorem less_eq (a b : ByteArray) : Op.bytesLess a.toList b.toList = decide (NLt a b) := by
  rw [bless_eq]
  simp only [ByteArray.toList_eq]
  rfl
theorem ba_ext {a b : ByteArray} (h : a.data.toList = b.data.toList) : a = b := by
  cases a; cases b
  congr 1
  exact Array.toList_inj.1 h
theorem NLt.irrefl (a : ByteArray) : ¬ NLt a a := List.lt_irrefl _
theorem NLt.trans {a b c : ByteArray} (h : NLt a b) (k : NLt b c) : NLt a c := List.lt_trans h k
theorem NLt.tri (a b : ByteArray) : NLt a b ∨ a = b ∨ NLt b a := by
  by_cases h : NLt a b
  · exact .inl h
  · by_cases k : NLt b a
    · exact .inr (.inr k)
    · refine .inr (.inl (ba_ext (List.le_antisymm (List.not_lt.1 k) (List.not_lt.1 h))))
theorem NLt.ne {a b : ByteArray} (h : NLt a b) : a ≠ b := fun e => NLt.irrefl b (e ▸ h)
theorem NLt.asymm {a b : ByteArray} (h : NLt a b) : ¬ NLt b a := fun k => NLt.irrefl a (h.trans k)
theorem leB_of {a b : ByteArray} (h : NLt a b) : Go.leB a.data.toList b.data.toList = true := by
  simp only [Go.leB, decide_eq_true_eq]
  exact List.le_of_lt h

abbrev ED := ByteArray × ByteArray
abbrev EL := List ED
def Rise (l : EL) : Prop := l.Pairwise fun x y => NLt x.1 y.1
def findL (l : EL) (k : ByteArray) : Option ED := l.find? fun x => decide (x.1 = k)
def dropL (l : EL) (k : ByteArray) : EL := l.filter fun x => !decide (x.1 = k)
def withL (l : EL) (x : ED) : EL := (dropL l x.1).takeWhile (fun y => decide (NLt y.1 x.1)) ++ x :: (dropL l x.1).dropWhile (fun y => decide (NLt y.1 x.1))
def Names (l : EL) : Prop := (l.map (·.1)).Nodup
theorem Rise.names {l : EL} (h : Rise l) : Names l := by
  unfold Names
  rw [List.Nodup, List.pairwise_map]
  exact h.imp fun h => h.ne
theorem Rise.drop {l : EL} (h : Rise l) (k : ByteArray) : Rise (dropL l k) := h.sublist List.filter_sublist
theorem with_perm (l : EL) (x : ED) : (withL l x).Perm (x :: dropL l x.1) := by
  unfold withL
  refine List.perm_middle.trans ?_
  rw [List.takeWhile_append_dropWhile]
theorem rise_split {l : EL} (h : Rise l) (x : ED) (hx : ∀ y ∈ l, y.1 ≠ x.1) : (∀ y ∈ l.takeWhile (fun y => decide (NLt y.1 x.1)), NLt y.1 x.1) ∧ (∀ y ∈ l.dropWhile (fun y => decide (NLt y.1 x.1)), NLt x.1 y.1) := by
  induction l with
  | nil => exact ⟨(fun y hy => by cases hy), (fun y hy => by cases hy)⟩
  | cons z l ih =>
    have h' := h
    unfold Rise at h
    rw [List.pairwise_cons] at h
    by_cases hz : NLt z.1 x.1
    · rw [List.takeWhile_cons_of_pos (by simpa using hz), List.dropWhile_cons_of_pos (by simpa using hz)]
      obtain ⟨i1, i2⟩ := ih h.2 (fun y hy => hx y (by simp [hy]))
      refine ⟨fun y hy => ?_, i2⟩
      rcases List.mem_cons.1 hy with rfl | hy
      · exact hz
      · exact i1 y hy
    · rw [List.takeWhile_cons_of_neg (by simpa using hz), List.dropWhile_cons_of_neg (by simpa using hz)]
      have hxz : NLt x.1 z.1 := by
        rcases NLt.tri z.1 x.1 with e | e | e
        · exact absurd e hz
        · exact absurd e (hx z (by simp))
        · exact e
      refine ⟨(fun y hy => by cases hy), fun y hy => ?_⟩
      rcases List.mem_cons.1 hy with rfl | hy
      · exact hxz
      · exact hxz.trans (h.1 y hy)
theorem drop_mem {l : EL} {k : ByteArray} {y : ED} (h : y ∈ dropL l k) : y ∈ l ∧ y.1 ≠ k := by
  unfold dropL at h
  rw [List.mem_filter] at h
  exact ⟨h.1, by simpa using h.2⟩
theorem Rise.with {l : EL} (h : Rise l) (x : ED) : Rise (withL l x) := by
  have hd := h.drop x.1
  obtain ⟨s1, s2⟩ := rise_split hd x (fun y hy => (drop_mem hy).2)
  unfold withL Rise
  have hs : Rise ((dropL l x.1).takeWhile (fun y => decide (NLt y.1 x.1)) ++ (dropL l x.1).dropWhile (fun y => decide (NLt y.1 x.1))) := by
    rw [List.takeWhile_append_dropWhile]; exact hd
  unfold Rise at hs
  rw [List.pairwise_append] at hs ⊢
  refine ⟨hs.1, List.pairwise_cons.2 ⟨s2, hs.2.1⟩, fun a ha b hb => ?_⟩
  rcases List.mem_cons.1 hb with rfl | hb
  · exact s1 a ha
  · exact (s1 a ha).trans (s2 b hb)
theorem rise_eq {l m : EL} (h : Rise l) (k : Rise m) (p : l.Perm m) : l = m :=
  List.Perm.eq_of_pairwise (le := fun (x y : ED) => NLt x.1 y.1) (fun a b _ _ h1 h2 => absurd h2 (NLt.asymm h1)) h k p
theorem Names.perm {l m : EL} (h : Names l) (p : l.Perm m) : Names m := by
  unfold Names at *
  exact (List.Perm.nodup_iff (p.map (·.1))).1 h
theorem drop_perm {l m : EL} (p : l.Perm m) (k : ByteArray) : (dropL l k).Perm (dropL m k) := p.filter _
theorem find_mem {l : EL} {k : ByteArray} {x : ED} (h : findL l k = some x) : x ∈ l ∧ x.1 = k := ⟨List.mem_of_find?_eq_some h, by have := List.find?_some h; simpa using this⟩
theorem find_of {l : EL} (hn : Names l) {k : ByteArray} {x : ED} (h : x ∈ l) (hk : x.1 = k) : findL l k = some x := by
  unfold findL
  induction l with
  | nil => cases h
  | cons y l ih =>
    unfold Names at hn ih
    rw [List.map_cons, List.nodup_cons] at hn
    by_cases hy : y.1 = k
    · rw [List.find?_cons_of_pos (by simpa using hy)]
      rcases List.mem_cons.1 h with rfl | h
      · rfl
      · exact absurd (List.mem_map.2 ⟨x, h, hk.trans hy.symm⟩) hn.1
    · rw [List.find?_cons_of_neg (by simpa using hy)]
      rcases List.mem_cons.1 h with rfl | h
      · exact absurd hk hy
      · exact ih hn.2 h
theorem find_none {l : EL} {k : ByteArray} : findL l k = none ↔ ∀ x ∈ l, x.1 ≠ k := by
  unfold findL
  rw [List.find?_eq_none]
  exact ⟨fun h x hx => by simpa using h x hx, fun h x hx => by simpa using h x hx⟩
theorem find_perm {l m : EL} (hn : Names l) (p : l.Perm m) (k : ByteArray) : findL l k = findL m k := by
  cases h : findL l k with
  | none =>
    rw [find_none] at h
    exact (find_none.2 fun x hx => h x (p.mem_iff.2 hx)).symm
  | some x =>
    obtain ⟨h1, h2⟩ := find_mem h
    exact (find_of (hn.perm p) (p.mem_iff.1 h1) h2).symm
theorem drop_none {l : EL} {k : ByteArray} (h : ∀ x ∈ l, x.1 ≠ k) : dropL l k = l := by
  unfold dropL
  rw [List.filter_eq_self]
  intro x hx
  simpa using h x hx
theorem drop_split {l1 l2 : EL} {x : ED} (hn : Names (l1 ++ x :: l2)) : dropL (l1 ++ x :: l2) x.1 = l1 ++ l2 := by
  unfold Names at hn
  rw [List.map_append, List.map_cons, List.nodup_append, List.nodup_cons] at hn
  obtain ⟨_, ⟨h2, _⟩, h3⟩ := hn
  unfold dropL
  rw [List.filter_append, List.filter_cons_of_neg (by simp)]
  congr 1
  · exact drop_none fun y hy e => h3 y.1 (List.mem_map.2 ⟨y, hy, rfl⟩) x.1 (by simp) e
  · exact drop_none fun y hy e => h2 (List.mem_map.2 ⟨y, hy, e⟩)

/-- files without one, with one -/

def eKV (x : ED) : KV := (x.1, .string x.2)
def delL : EL → ByteArray → EL
  | [], _ => []
  | f :: r, k => if f.1 = k then r else f :: delL r k
def putL : EL → ED → EL
  | [], x => [x]
  | f :: r, x => if f.1 = x.1 then x :: r else f :: putL r x
theorem del_eKV (l : EL) (k : ByteArray) : delS (l.map eKV) k = (delL l k).map eKV := by
  induction l with
  | nil => rfl
  | cons f r ih =>
    unfold delL
    rw [List.map_cons]
    unfold delS
    by_cases h : f.1 = k
    · rw [if_pos h, if_pos (show (eKV f).1 = k from h)]
    · rw [if_neg h, if_neg (show ¬ (eKV f).1 = k from h), ih]; rfl
theorem put_eKV (l : EL) (x : ED) : putS (l.map eKV) x.1 (.string x.2) = (putL l x).map eKV := by
  induction l with
  | nil => rfl
  | cons f r ih =>
    unfold putL
    rw [List.map_cons]
    unfold putS
    by_cases h : f.1 = x.1
    · rw [if_pos h, if_pos (show (eKV f).1 = x.1 from h)]; rfl
    · rw [if_neg h, if_neg (show ¬ (eKV f).1 = x.1 from h), ih]; rfl
theorem look_eKV (l : EL) (k : ByteArray) : lookS (l.map eKV) k = (findL l k).map fun x => .string x.2 := by
  unfold lookS findL
  rw [List.find?_map, Option.map_map]
  rfl
theorem delL_perm {l : EL} (hn : Names l) (k : ByteArray) : (delL l k).Perm (dropL l k) := by
  induction l with
  | nil => exact .nil
  | cons f r ih =>
    have hn' := hn
    unfold Names at hn
    rw [List.map_cons, List.nodup_cons] at hn
    unfold delL
    by_cases h : f.1 = k
    · rw [if_pos h]
      subst h
      have : dropL (f :: r) f.1 = r := drop_split (l1 := []) (x := f) hn'
      rw [this]
    · rw [if_neg h]
      unfold dropL
      rw [List.filter_cons_of_pos (by simpa using h)]
      exact (ih hn.2).cons _
theorem putL_perm {l : EL} (hn : Names l) (x : ED) : (putL l x).Perm (x :: dropL l x.1) := by
  induction l with
  | nil => exact .refl _
  | cons f r ih =>
    have hn' := hn
    unfold Names at hn
    rw [List.map_cons, List.nodup_cons] at hn
    unfold putL
    by_cases h : f.1 = x.1
    · rw [if_pos h]
      have : dropL (f :: r) f.1 = r := drop_split (l1 := []) (x := f) hn'
      rw [← h, this]
    · rw [if_neg h]
      unfold dropL
      rw [List.filter_cons_of_pos (by simpa using h)]
      exact ((ih hn.2).cons _).trans (List.Perm.swap _ _ _)
theorem put_of {l S : EL} (hp : l.Perm S) (hr : Rise S) (x : ED) : (putL l x).Perm (withL S x) :=
  (putL_perm (hr.names.perm hp.symm) x).trans (((drop_perm hp x.1).cons x).trans (with_perm S x).symm)
theorem del_of {l S : EL} (hp : l.Perm S) (hr : Rise S) (k : ByteArray) : (delL l k).Perm (dropL S k) :=
  (delL_perm (hr.names.perm hp.symm) k).trans (drop_perm hp k)
theorem find_of_perm {l S : EL} (hp : l.Perm S) (hr : Rise S) (k : ByteArray) : findL l k = findL S k := find_perm (hr.names.perm hp.symm) hp k
theorem with_len (l : EL) (x : ED) : (withL l x).length ≤ l.length + 1 := by
  rw [(with_perm l x).length_eq, List.length_cons]
  have : (dropL l x.1).length ≤ l.length := List.length_filter_le _ _
  omega
theorem drop_len (l : EL) (k : ByteArray) : (dropL l k).length ≤ l.length := List.length_filter_le _ _

/-- a cache in memory that has just these entries -/
def CE (w : World) (g r1 r2 : Nat) (S N : EL) : Prop := ∃ ss ns : EL, CQ w g r1 r2 (ss.map eKV) (ns.map eKV) ∧ ss.Perm S ∧ ns.Perm N ∧ Rise S ∧ Rise N
theorem CE.below {w w' : World} {g r1 r2 : Nat} {S N : EL} (h : CE w g r1 r2 S N) (hb : Below w.heap.size w w') : CE w' g r1 r2 S N := by
  obtain ⟨ss, ns, h1, h2⟩ := h
  exact ⟨ss, ns, h1.below hb, h2⟩
/-- nothing that was there is another, but for two maps -/
structure MK (r1 r2 : Nat) (w w' : World) : Prop where
  os : w'.os = w.os
  tape : w'.tape = w.tape
  output : w'.output = w.output
  size : w.heap.size ≤ w'.heap.size
  block : ∀ k, k < w.heap.size → k ≠ r1 → k ≠ r2 → w'.heap[k]? = w.heap[k]?
theorem MK.refl (r1 r2 : Nat) (w : World) : MK r1 r2 w w := ⟨rfl, rfl, rfl, Nat.le_refl _, fun _ _ _ _ => rfl⟩
theorem MK.trans {r1 r2 : Nat} {a b c : World} (h : MK r1 r2 a b) (k : MK r1 r2 b c) : MK r1 r2 a c :=
  ⟨k.os.trans h.os, k.tape.trans h.tape, k.output.trans h.output, Nat.le_trans h.size k.size, fun i hi h1 h2 => (k.block i (Nat.lt_of_lt_of_le hi h.size) h1 h2).trans (h.block i hi h1 h2)⟩
theorem MK.of {r1 r2 : Nat} {w w' : World} (h : Below w.heap.size w w') : MK r1 r2 w w' := ⟨h.os, h.tape, h.output, h.size, fun k hk _ _ => h.block k hk⟩
theorem MK.putObj {r1 r2 r : Nat} (w : World) (hr : r = r1 ∨ r = r2) (o : Obj) : MK r1 r2 w (w.putObj r o) :=
  ⟨rfl, rfl, rfl, by simp [World.putObj], fun k hk h1 h2 => by
    have hne : r ≠ k := fun e => by subst e; rcases hr with h | h; exact h1 h; exact h2 h
    simp [World.putObj, hne]⟩
theorem MK.drewN {r1 r2 : Nat} {a w : World} (h : MK r1 r2 a w) (n : Nat) : MK r1 r2 a (w.drewN n) := ⟨h.os, h.tape, h.output, h.size, h.block⟩
theorem MK.puts {r1 r2 r m : Nat} {w w' : World} (hr : r = r1 ∨ r = r2) (hw : w' = w.drewN m ∨ ∃ o, w' = (w.drewN m).putObj r o) : MK r1 r2 w w' := by
  rcases hw with rfl | ⟨o, rfl⟩
  · exact (MK.refl _ _ _).drewN _
  · exact ((MK.refl _ _ w).drewN m).trans (MK.putObj _ hr o)
theorem MK.below {r1 r2 B : Nat} {w w' : World} (h : MK r1 r2 w w') (hB : B ≤ w.heap.size) (h1 : B ≤ r1) (h2 : B ≤ r2) : Below B w w' :=
  ⟨h.os, h.tape, h.output, h.size, fun k hk => h.block k (by omega) (by omega) (by omega)⟩
theorem CE.ne {w : World} {g r1 r2 k : Nat} {S N : EL} {t : TypeId} {cs : Array Value} (h : CE w g r1 r2 S N) (hk : Blk w k t cs) : k ≠ r1 ∧ k ≠ r2 := by
  obtain ⟨ss, ns, ⟨_, ⟨e1, c1, m1, _⟩, ⟨e2, c2, m2, _⟩, _⟩, _⟩ := h
  unfold Blk at hk
  constructor
  · intro e; subst e; rw [hk] at m1; cases m1
  · intro e; subst e; rw [hk] at m2; cases m2
theorem CE.blk {w w' : World} {g r1 r2 k : Nat} {S N : EL} {t : TypeId} {cs : Array Value} (h : CE w g r1 r2 S N) (hm : MK r1 r2 w w') (hk : Blk w k t cs) : Blk w' k t cs :=
  (hm.block k hk.lt (h.ne hk).1 (h.ne hk).2).trans hk
theorem CE.reads {w w' : World} {g r1 r2 B size n : Nat} {S N : EL} {A : Option Addr} {xs : List Value} (h : CE w g r1 r2 S N) (hm : MK r1 r2 w w') (hB : B ≤ w.heap.size) (hr : Reads w B size A n xs) : Reads w' B size A n xs := by
  refine ⟨hr.1, fun hn => ?_⟩
  obtain ⟨b, o, e, hb, hc⟩ := hr.2 hn
  refine ⟨b, o, e, hb, fun j u hu => ?_⟩
  have hq := hc j u hu
  obtain ⟨ss, ns, ⟨_, ⟨e1, c1, m1, _⟩, ⟨e2, c2, m2, _⟩, _⟩, _⟩ := h
  obtain ⟨ob, hob, hcs⟩ := cells_of_cell hq
  have n1 : b ≠ r1 := fun e => by subst e; have := hob.symm.trans m1; cases this; cases hcs
  have n2 : b ≠ r2 := fun e => by subst e; have := hob.symm.trans m2; cases this; cases hcs
  exact (World.cell?_of_block (a := ⟨b, o + j, none⟩) (hm.block b (by omega) n1 n2)).trans hq
/-- entries as cells -/
def evs (l : EL) : List Value := l.flatMap fun x => [.string x.1, .string x.2]
theorem evs_append (l m : EL) : evs (l ++ m) = evs l ++ evs m := by simp [evs]
theorem evs_len (l : EL) : (evs l).length = l.length * 2 := by
  induction l with
  | nil => rfl
  | cons x l ih =>
    have e : evs (x :: l) = [.string x.1, .string x.2] ++ evs l := rfl
    rw [e, List.length_append, ih, List.length_cons]
    simp
    omega
theorem evs_at : ∀ (l : EL) (k : Nat) (x : ED), l[k]? = some x → (evs l)[k * 2]? = some (.string x.1) ∧ (evs l)[k * 2 + 1]? = some (.string x.2)
  | [], k, x, h => by simp at h
  | y :: l, 0, x, h => by
    simp at h
    subst h
    exact ⟨rfl, rfl⟩
  | y :: l, k + 1, x, h => by
    have e : evs (y :: l) = [.string y.1, .string y.2] ++ evs l := rfl
    obtain ⟨h1, h2⟩ := evs_at l k x (by simpa using h)
    rw [e]
    constructor
    · rw [List.getElem?_append_right (by simp; omega), ← h1]; congr 1; simp; omega
    · rw [List.getElem?_append_right (by simp; omega), ← h2]; congr 1; simp; omega
theorem evs_one (l : EL) : ∀ u ∈ evs l, u.oneCell' = true := by
  intro u hu
  simp only [evs, List.mem_flatMap] at hu
  obtain ⟨f, _, hu⟩ := hu
  simp at hu
  rcases hu with rfl | rfl <;> rfl
theorem Reads.elen {w : World} {B n : Nat} {A : Option Addr} {l : EL} (h : Reads w B 2 A n (evs l)) : l.length = n := by
  have := h.1
  rw [evs_len] at this
  omega
theorem Reads.ent {w : World} {B n : Nat} {A : Option Addr} {l : EL} {k : Nat} (h : Reads w B 2 A n (evs l)) (hk : k < n) : ∃ b o x, A = some ⟨b, o, none⟩ ∧ b < B ∧ l[k]? = some x ∧ w.cell? ⟨b, o + k * 2, none⟩ = some (.string x.1) ∧ w.cell? ⟨b, o + k * 2 + 1, none⟩ = some (.string x.2) := by
  have hl := h.elen
  obtain ⟨b, o, e, hb, hc⟩ := h.2 (by omega)
  have hk' : k < l.length := by omega
  obtain ⟨h1, h2⟩ := evs_at l k _ (List.getElem?_eq_getElem hk')
  exact ⟨b, o, l[k], e, hb, List.getElem?_eq_getElem hk', hc _ _ h1, hc _ _ h2⟩
end Go.Proofs.Ythfgblchlgodmaa
