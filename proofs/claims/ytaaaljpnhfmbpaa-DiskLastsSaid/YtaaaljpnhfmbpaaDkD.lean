/- A disk behind an Append, by its files. Conditions: those of each theorem. -/
import Derived.Test.YtaaaljpnhfmbpaaDkC
namespace Go.Proofs.Ytaaaljpnhfmbpaa
open Go.RowKit
set_option linter.unusedVariables false

theorem Ms.ne {w : World} {r k : Nat} {t : TypeId} {cs : Array Value} {kvs : List KV} (h : Ms w r kvs) (hk : Blk w k t cs) : k ≠ r := fun e => by
  obtain ⟨es, ck, h1, _⟩ := h
  unfold Blk at hk
  rw [e, h1] at hk
  cases hk
theorem Blk.kept {w w' : World} {k : Nat} {t : TypeId} {cs : Array Value} (h : Blk w k t cs) (hk : w'.heap[k]? = w.heap[k]?) : Blk w' k t cs := hk.trans h
theorem DK.steps {B : Nat} {w : World} {g r : Nat} {fs : List FP} {st lf st' : Int} {en : Bool} (h : DK B w g r fs st en lf) : DK B (w.setCell ⟨g, 1, none⟩ (.int .i64 st')) g r fs st' en lf := by
  obtain ⟨h1, h2, h3, h4, h5, h6⟩ := h
  refine ⟨h1.set_ 1 _, h2, h3, h4.setCell (p := ⟨g, 1, none⟩) (fun e => h4.ne h1 e.symm) _, fun f hf => ?_, h6⟩
  obtain ⟨a1, a2, a3, a4⟩ := h5 f hf
  exact ⟨a1.far (p := ⟨g, 1, none⟩) (a1.ne_ h1 (by decide)) _, a2, zown_far a3 (p := ⟨g, 1, none⟩) (zown_not a3 h1 (by decide)) _, a4⟩
theorem DK.drew {B : Nat} {w : World} {g r : Nat} {fs : List FP} {st lf : Int} {en : Bool} (h : DK B w g r fs st en lf) : DK B w.drew g r fs st en lf := h
theorem DK.drewN {B : Nat} {w : World} {g r : Nat} {fs : List FP} {st lf : Int} {en : Bool} (h : DK B w g r fs st en lf) (k : Nat) : DK B (w.drewN k) g r fs st en lf := h
/-- a file that an Append did not touch -/
theorem FRow.kept {B : Nat} {w w' : World} {r p : Nat} {f x : FP} {kvs : List KV} (h : FRow B w x) (hf : FRow B w f) (hr : Ms w r kvs) (ha : FApart f x) (hp : f.p = p) (hk : KeptBut w w' p r (.slice f.A f.n f.c)) : FRow B w' x := by
  obtain ⟨a1, a2, a3, a4⟩ := h
  subst hp
  refine ⟨a1.kept (hk.2 _ a1.lt (fun e => ha.1 e.symm) (hr.ne a1) (zown_not hf.2.2.1 a1 (by decide))), a2, zown_kept a3 (fun k hko => hk.2 k (zown_lt a3 hko) (fun e => ?_) (fun e => ?_) (fun e => ha.2 k e hko)), a4⟩
  · subst e; exact zown_not a3 hf.1 (by decide) hko
  · subst e; exact zown_not_map a3 hr hko
theorem fkv_find {fs : List FP} {name : ByteArray} : lookS (fs.map fkv) name = (fs.find? fun f => decide (f.name = name)).map fun f => .pointer (some ⟨f.p, 0, none⟩) := by
  unfold lookS
  rw [List.find?_map, Option.map_map]
  rfl
theorem put_same {kvs : List KV} {name : ByteArray} {v : Value} (h : lookS kvs name = some v) : putS kvs name v = kvs := by
  induction kvs with
  | nil => cases h
  | cons q rest ih =>
    unfold lookS at h
    by_cases hq : q.1 = name
    · rw [List.find?_cons_of_pos (by simpa using hq)] at h
      injection h with h
      unfold putS
      rw [if_pos hq, ← h, ← hq]
    · rw [List.find?_cons_of_neg (by simpa using hq)] at h
      unfold putS
      rw [if_neg hq, ih h]
theorem put_none {kvs : List KV} {k : ByteArray} (v : Value) (h : lookS kvs k = none) : putS kvs k v = kvs ++ [(k, v)] := by
  induction kvs with
  | nil => rfl
  | cons p r ih =>
    unfold lookS at h
    by_cases hp : p.1 = k
    · rw [List.find?_cons_of_pos (by simpa using hp)] at h
      cases h
    · rw [List.find?_cons_of_neg (by simpa using hp)] at h
      unfold putS
      rw [if_neg hp, ih h]
      rfl
/-- files with one of them turned -/
def updF (fs : List FP) (f' : FP) : List FP := fs.map fun x => if x.p = f'.p then f' else x
theorem upd_split {l1 l2 : List FP} {f f' : FP} (hp : f'.p = f.p) (h : (l1 ++ f :: l2).Pairwise FApart) : updF (l1 ++ f :: l2) f' = l1 ++ f' :: l2 := by
  rw [List.pairwise_append] at h
  obtain ⟨_, h2, h3⟩ := h
  rw [List.pairwise_cons] at h2
  unfold updF
  rw [List.map_append, List.map_cons, if_pos hp.symm]
  congr 1
  · conv => rhs; rw [← List.map_id l1]
    refine List.map_congr_left fun x hx => ?_
    rw [if_neg (fun e => (h3 x hx f (by simp)).1 (e.trans hp))]
    rfl
  · congr 1
    conv => rhs; rw [← List.map_id l2]
    refine List.map_congr_left fun x hx => ?_
    rw [if_neg (fun e => (h2.1 x hx).1 (e.trans hp).symm)]
    rfl
theorem FApart.symm {f f' : FP} (h : FApart f f') : FApart f' f := ⟨fun e => h.1 e.symm, fun k hk hk' => h.2 k hk' hk⟩
/-- an Append to a file that is there -/
theorem DK.appended {B : Nat} {w w' : World} {g r : Nat} {fs : List FP} {st lf : Int} {en : Bool} {f f' : FP} (h : DK B w g r fs st en lf) (hf : f ∈ fs) (hp : f'.p = f.p) (hn : f'.name = f.name) (hrow : FRow B w' f') (hm : Ms w' r (fs.map fkv))
    (hv : ∀ k, (Value.slice f'.A f'.n f'.c).ownBlock = some k → (Value.slice f.A f.n f.c).ownBlock = some k ∨ w.heap.size ≤ k) (hk : KeptBut w w' f.p r (.slice f.A f.n f.c)) : DK B w' g r (updF fs f') st en lf := by
  obtain ⟨h1, h2, h3, h4, h5, h6⟩ := h
  have hff := h5 f hf
  obtain ⟨l1, l2, rfl⟩ := List.append_of_mem hf
  have hsp := upd_split hp h6
  rw [hsp]
  have h6' := h6
  rw [List.pairwise_append, List.pairwise_cons] at h6
  obtain ⟨p1, ⟨p2, p3⟩, p4⟩ := h6
  have hap : ∀ x ∈ l1 ++ l2, FApart f x := fun x hx => by
    rcases List.mem_append.1 hx with hx | hx
    · exact (p4 x hx f (by simp)).symm
    · exact p2 x hx
  have hap' : ∀ x ∈ l1 ++ l2, FApart f' x := fun x hx => by
    have ha := hap x hx
    refine ⟨by rw [hp]; exact ha.1, fun k hk1 hk2 => ?_⟩
    have hxr := (h5 x (by rcases List.mem_append.1 hx with hx | hx <;> simp [hx])).2.2.1
    rcases hv k hk1 with e | e
    · exact ha.2 k e hk2
    · exact absurd (zown_lt hxr hk2) (by omega)
  refine ⟨h1.kept (hk.2 g h1.lt (h1.ne_ hff.1 (by decide)) (h4.ne h1) (zown_not hff.2.2.1 h1 (by decide))), h2, h3, ?_, fun x hx => ?_, ?_⟩
  · have e : ((l1 ++ f' :: l2).map fkv) = ((l1 ++ f :: l2).map fkv) := by
      rw [List.map_append, List.map_append, List.map_cons, List.map_cons]
      rw [show fkv f' = fkv f from by unfold fkv; rw [hn, hp]]
    rw [e]; exact hm
  · rcases List.mem_append.1 hx with hx1 | hx1
    · exact (h5 x (by simp [hx1])).kept hff h4 (hap x (by simp [hx1])) rfl hk
    · rcases List.mem_cons.1 hx1 with rfl | hx1
      · exact hrow
      · exact (h5 x (by simp [hx1])).kept hff h4 (hap x (by simp [hx1])) rfl hk
  · rw [List.pairwise_append, List.pairwise_cons]
    refine ⟨p1, ⟨fun x hx => hap' x (by simp [hx]), p3⟩, fun x hx y hy => ?_⟩
    rcases List.mem_cons.1 hy with rfl | hy
    · exact (hap' x (by simp [hx])).symm
    · exact p4 x hx y (by simp [hy])
/-- .. to one that is new -/
theorem DK.appended_new {B : Nat} {w w' : World} {g r : Nat} {fs : List FP} {st lf : Int} {en : Bool} {f f' : FP} (h : DK B w g r fs st en lf) (hff : FRow B w f) (hap : ∀ x ∈ fs, FApart f x) (hp : f'.p = f.p) (hrow : FRow B w' f') (hm : Ms w' r (fs.map fkv ++ [fkv f']))
    (hv : ∀ k, (Value.slice f'.A f'.n f'.c).ownBlock = some k → (Value.slice f.A f.n f.c).ownBlock = some k ∨ w.heap.size ≤ k) (hk : KeptBut w w' f.p r (.slice f.A f.n f.c)) : DK B w' g r (fs ++ [f']) st en lf := by
  obtain ⟨h1, h2, h3, h4, h5, h6⟩ := h
  refine ⟨h1.kept (hk.2 g h1.lt (h1.ne_ hff.1 (by decide)) (h4.ne h1) (zown_not hff.2.2.1 h1 (by decide))), h2, h3, by rw [List.map_append]; exact hm, fun x hx => ?_, ?_⟩
  · rcases List.mem_append.1 hx with hx1 | hx1
    · exact (h5 x hx1).kept hff h4 (hap x hx1) rfl hk
    · rw [List.mem_singleton.1 hx1]; exact hrow
  · rw [List.pairwise_append]
    refine ⟨h6, List.pairwise_singleton _ _, fun x hx y hy => ?_⟩
    rw [List.mem_singleton.1 hy]
    have ha := (hap x hx).symm
    refine ⟨by rw [hp]; exact ha.1, fun k hk1 hk2 => ?_⟩
    rcases hv k hk2 with e | e
    · exact ha.2 k hk1 e
    · exact absurd (zown_lt (h5 x hx).2.2.1 hk1) (by omega)
end Go.Proofs.Ytaaaljpnhfmbpaa
