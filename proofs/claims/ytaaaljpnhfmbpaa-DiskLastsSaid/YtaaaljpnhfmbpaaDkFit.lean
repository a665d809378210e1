/- Bounds of a disk behind a step, plain; rows that a disk's step leaves as they are. Conditions: those of each theorem. -/
import Derived.Test.YtaaaljpnhfmbpaaDkDo
namespace Go.Proofs.Ytaaaljpnhfmbpaa
open Go.RowKit
set_option linter.unusedVariables false

/-- files within bounds: how many, their names, their bytes, how many of these are synced -/
structure FitK (l : FL) (K : Nat) : Prop where
  num : l.length ≤ K
  all : ∀ x ∈ l, x.1.size ≤ 140737488351232 ∧ x.2.1.length ≤ 1048576 ∧ x.2.2 ≤ 1048576
theorem FitK.fit {l : FL} {K : Nat} (h : FitK l K) (hK : K ≤ 100000) : Fit l :=
  ⟨Nat.le_trans h.num hK, fun x hx => Nat.le_trans (h.all x hx).1 (by decide), fun x hx => (h.all x hx).2.1⟩
theorem FitK.mono {l : FL} {K K' : Nat} (h : FitK l K) (hK : K ≤ K') : FitK l K' := ⟨Nat.le_trans h.num hK, h.all⟩
theorem FitK.drop {l : FL} {K : Nat} (h : FitK l K) (k : ByteArray) : FitK (dropL l k) K :=
  ⟨Nat.le_trans (dropL_len l k) h.num, fun x hx => h.all x (drop_mem hx).1⟩
theorem FitK.with {l : FL} {K : Nat} (h : FitK l K) {x : FD} (hx : x.1.size ≤ 140737488351232 ∧ x.2.1.length ≤ 1048576 ∧ x.2.2 ≤ 1048576) : FitK (withL l x) (K + 1) := by
  have hp := with_perm l x
  refine ⟨?_, fun y hy => ?_⟩
  · rw [hp.length_eq, List.length_cons]
    have := (h.drop x.1).num
    omega
  · rcases List.mem_cons.1 (hp.mem_iff.1 hy) with rfl | hy
    · exact hx
    · exact (h.drop x.1).all y hy
theorem FitK.get {l : FL} {K : Nat} (h : FitK l K) {name : ByteArray} (hs : name.size ≤ 140737488351232) : (getL l name).1.size ≤ 140737488351232 ∧ (getL l name).2.1.length ≤ 1048576 ∧ (getL l name).2.2 ≤ 1048576 := by
  unfold getL
  cases hf : findL l name with
  | none => exact ⟨hs, Nat.zero_le _, Nat.zero_le _⟩
  | some x => exact h.all x (find_mem hf).1
theorem FitK.doP {l : FL} {K : Nat} (h : FitK l K) {name : ByteArray} {c : Cmd} (hs : name.size ≤ 140737488351232) (ht : ∀ tn, c = .ren tn → tn.size ≤ 140737488351232) (hr : refP l name c = 0) : FitK (doP l name c) (K + 1) := by
  obtain ⟨g1, g2, g3⟩ := h.get hs
  have ho : ownP c (getL l name) = 0 := by
    unfold refP at hr
    split at hr
    · cases hr
    · split at hr
      · cases hr
      · exact hr
  cases c with
  | app bs =>
    refine h.with ⟨hs, ?_, g3⟩
    unfold ownP at ho
    simp only at ho
    show ((getL l name).2.1 ++ bs).length ≤ _
    rw [List.length_append]
    by_cases hq : 1048576 < (getL l name).2.1.length + bs.length
    · rw [if_pos hq] at ho; cases ho
    · omega
  | cut z => exact h.with ⟨hs, by show ((getL l name).2.1.take z.toNat).length ≤ _; rw [List.length_take]; omega, by show min (getL l name).2.2 z.toNat ≤ _; omega⟩
  | sync => exact h.with ⟨hs, g2, g2⟩
  | ren tn => exact (h.drop name).with ⟨ht tn rfl, g2, g3⟩
  | rem => exact (h.drop name).mono (Nat.le_succ _)
theorem err_ref {d : DS} {name : ByteArray} {c : Cmd} (h : errP d name c = 0) : refP d.l name c = 0 := by
  unfold errP at h
  split at h
  · assumption
  · rename_i hn; exact Classical.not_not.1 hn
theorem FitK.step {d : DS} {K : Nat} (h : FitK d.l K) {name : ByteArray} {c : Cmd} (hs : name.size ≤ 140737488351232) (ht : ∀ tn, c = .ren tn → tn.size ≤ 140737488351232) : FitK (stepD d name c).l (K + 1) := by
  unfold stepD
  split
  · exact h.doP hs ht (err_ref (by assumption))
  · exact h.mono (Nat.le_succ _)
theorem cmd_ren {wh : Nat} {tn tn' : ByteArray} {bs : List UInt8} {z : Int} (h : cmdOf wh tn bs z = .ren tn') : tn' = tn := by
  unfold cmdOf at h
  split at h <;> cases h
  rfl
theorem own_keepO {w w' : World} {B n : Nat} {v : Value} {xs : List Value} (h : w.ownsRow B 27 3 v n xs) (hk : KeepsO w w') : w'.ownsRow B 27 3 v n xs := by
  obtain ⟨h1, h2⟩ := h
  refine ⟨h1, ?_⟩
  rcases h2 with h2 | ⟨g, cap, cur, a, b, c, d⟩
  · exact .inl h2
  · have hb : Blk w g 27 cur := c
    exact .inr ⟨g, cap, cur, a, b, hk g _ _ hb (by decide) (by decide) (by decide), d⟩
/-- a list of files in memory that a disk's step leaves as it is: it lies below, or in a row of its own -/
def RL (B : Nat) (w : World) (A : Option Addr) (n c : Nat) (l : FL) : Prop := Reads w B 3 A n (dvs l) ∨ w.ownsRow B 27 3 (.slice A n c) n (dvs l)
theorem RL.keep {B B0 : Nat} {w w' : World} {A : Option Addr} {n c : Nat} {l : FL} (h : RL B w A n c l) (hb : BK B0 w w') (hB : B ≤ B0) : RL B w' A n c l := by
  rcases h with h | h
  · exact .inl (h.below (hb.1.mono hB))
  · exact .inr (own_keepO h hb.2)
theorem RL.reads {B : Nat} {w : World} {A : Option Addr} {n c : Nat} {l : FL} (h : RL B w A n c l) (hB : B ≤ w.heap.size) : Reads w w.heap.size 3 A n (dvs l) := by
  rcases h with h | h
  · exact h.more hB
  · exact Reads.of_own3 h
theorem RL.below {B : Nat} {w w' : World} {A : Option Addr} {n c : Nat} {l : FL} (h : RL B w A n c l) (hb : Below w.heap.size w w') (hB : B ≤ w.heap.size) : RL B w' A n c l := h.keep (BK.of hb hB) (Nat.le_refl _)
/-- what the document's Do hands back is such a list, too -/
theorem RL.out {B : Nat} {w w' : World} {A A' : Option Addr} {n n' c c' : Nat} {l l' : FL} (h : RL B w A n c l) (hb : Below w.heap.size w w') (hB : B ≤ w.heap.size)
    (ho : (A' = A ∧ n' = n ∧ c' = c ∧ l' = l) ∨ w'.ownsRow w.heap.size 27 3 (.slice A' n' c') n' (dvs l')) : RL B w' A' n' c' l' := by
  rcases ho with ⟨rfl, rfl, rfl, rfl⟩ | ho
  · exact h.below hb hB
  · exact .inr (own_base3 ho hB)
theorem RL.len {B : Nat} {w : World} {A : Option Addr} {n c : Nat} {l : FL} (h : RL B w A n c l) : l.length = n := by
  rcases h with h | h
  · exact h.dlen
  · have := h.1
    rw [dvs_len] at this
    omega
theorem RL.far {B g i : Nat} {w : World} {A : Option Addr} {n c : Nat} {l : FL} {t : TypeId} {cs : Array Value} (h : RL B w A n c l) (hg : Blk w g t cs) (hne : t ≠ 27) (hB : B ≤ g) (u : Value) : RL B (w.setCell ⟨g, i, none⟩ u) A n c l := by
  rcases h with h | h
  · exact .inl (h.below ((Below.refl B w).setCell (p := ⟨g, i, none⟩) hB u))
  · exact .inr (own_farN h (p := ⟨g, i, none⟩) (own_notN h hg hne) u)
theorem fit_of {l : List AF} (h : ∀ x ∈ l, OkA x) (hs : ∀ x ∈ l, x.name.size ≤ 140737488351232 ∧ x.b.size ≤ 140737488351232) {K : Nat} (hK : l.length ≤ K) : FitK (l.map adat) K :=
  ⟨by rw [List.length_map]; exact hK, fun x hx => by
    obtain ⟨y, hy, rfl⟩ := List.mem_map.1 hx
    obtain ⟨_, h2, h3, h4⟩ := h y hy
    refine ⟨(hs y hy).1, ?_, ?_⟩
    · show y.b.data.toList.length ≤ _
      rw [Array.length_toList]
      exact h4
    · show y.sy.toNat ≤ _
      omega⟩
end Go.Proofs.Ytaaaljpnhfmbpaa
