/- The walk of the law FramesRows, its first half: the frames of the rows one behind the other. Conditions: no text takes more than the form's reach. -/
import Derived.Test.YtbpodmgogokpiaaFrY
import Derived.Test.YtbpodmgogokpiaaFrV
import Derived.Deep.DeepCutAuto
namespace Go.Proofs.Ytbpodmgogokpiaa
open Go.RowKit
set_option linter.unusedVariables false
theorem few_size {l : List ByteArray} (h : accT l l.length ≤ 3000) : ¬ sizeF l = 0 := by
  have h1 := few_facts h
  have h2 : fsum l l.length = 4 + accT l l.length := by unfold fsum accT; rfl
  unfold sizeF
  rw [if_pos ⟨by omega, by omega⟩]
  omega
theorem few_len {l : List ByteArray} (h : accT l l.length ≤ 3000) : (frameF l).length ≤ 3012 := by
  have h2 : fsum l l.length = 4 + accT l l.length := by unfold fsum accT; rfl
  rw [frame_length]
  omega
theorem few_body {l : List ByteArray} (h : accT l l.length ≤ 3000) : l.length ≤ 65536 ∧ (bodyF l).length ≤ 1048576 ∧ ∀ s ∈ l, s.size < 4294967296 := by
  obtain ⟨h1, h2⟩ := few_facts h
  have h3 := few_len h
  rw [frameF_len] at h3
  exact ⟨by omega, by omega, fun s hs => by have := h2 s hs; omega⟩
theorem frame_ge (l : List ByteArray) : 12 ≤ (frameF l).length := by
  rw [frameF_len]
  unfold bodyF bodyT
  rw [List.length_append, le4_length]
  omega
def joined (L : List (List ByteArray)) (t : Nat) : List UInt8 := ((L.take t).map frameF).flatten
theorem joined_succ {L : List (List ByteArray)} {t : Nat} {l : List ByteArray} (h : L[t]? = some l) : joined L (t + 1) = joined L t ++ frameF l := by
  unfold joined
  rw [List.take_add_one, h]
  simp
theorem Rows2.below {w w' : World} {B : Nat} {A : Option Addr} {n : Nat} {vs : List Value} {L : List (List ByteArray)} (h : Rows2 w B A n vs L) (hb : Below B w w') : Rows2 w' B A n vs L :=
  ⟨h.row.below hb, h.len, fun i l hi => by
    obtain ⟨A', n', c', h1, h2, h3, h4⟩ := h.each i l hi
    exact ⟨A', n', c', h1, h2.below hb, h3, h4⟩⟩
theorem few_joined {L : List (List ByteArray)} (h : ∀ (j : Nat) (l : List ByteArray), L[j]? = some l → accT l l.length ≤ 3000) : ∀ t, (joined L t).length ≤ 3012 * t
  | 0 => by simp [joined]
  | t + 1 => by
    have ih := few_joined h t
    cases hl : L[t]? with
    | none =>
      have e : joined L (t + 1) = joined L t := by unfold joined; rw [List.take_add_one, hl]; simp
      rw [e]; omega
    | some l =>
      rw [joined_succ hl, List.length_append]
      have := few_len (h t l hl)
      omega
theorem scan_small {b : List UInt8} {l : List ByteArray} (hb : b.length ≤ 3000) (hl : l ∈ (scanF b).1) : accT l l.length ≤ 3000 := by
  have h := frame_of_scan b.length (Nat.le_refl _) hl
  rw [frame_length] at h
  have h2 : fsum l l.length = 4 + accT l l.length := by unfold fsum accT; rfl
  omega
theorem joined_all (L : List (List ByteArray)) : joined L L.length = (L.map frameF).flatten := by unfold joined; rw [List.take_length]
theorem joined_le (L : List (List ByteArray)) (t : Nat) : (joined L t).length ≤ ((L.map frameF).flatten).length := by
  conv => rhs; rw [← List.take_append_drop t L, List.map_append, List.flatten_append, List.length_append]
  exact Nat.le_add_right _ _
theorem again_scan (b : List UInt8) : joined (scanF b).1 (scanF b).1.length = b.take (scanF b).2 := by
  rw [joined_all]
  exact (scan_back b.length b (Nat.le_refl _)).1
theorem again_le {b : List UInt8} (hb : b.length ≤ 3000) (t : Nat) : (joined (scanF b).1 t).length ≤ 3000 := by
  have h := joined_le (scanF b).1 t
  rw [(scan_back b.length b (Nat.le_refl _)).1, List.length_take] at h
  omega

theorem flat_ge : ∀ L : List (List ByteArray), L.length ≤ ((L.map frameF).flatten).length
  | [] => by simp
  | l :: L => by
    have := flat_ge L
    have := frame_ge l
    rw [List.map_cons, List.flatten_cons, List.length_append, List.length_cons]
    omega
theorem scan_num {b : List UInt8} (hb : b.length ≤ 3000) : (scanF b).1.length ≤ 3000 := by
  have h := flat_ge (scanF b).1
  rw [(scan_back b.length b (Nat.le_refl _)).1, List.length_take] at h
  omega
end Go.Proofs.Ytbpodmgogokpiaa
