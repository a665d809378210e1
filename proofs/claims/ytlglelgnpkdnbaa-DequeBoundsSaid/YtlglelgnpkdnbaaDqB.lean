/- The walk of the document's Span (package taborref06). Conditions: numbers of 64 bits. -/
import Derived.Test.YtlglelgnpkdnbaaDqA
namespace Go.Proofs.Ytlglelgnpkdnbaa
open Go.RowKit
set_option linter.unusedVariables false

def spFst (lo hi t : Int) : Int := if lo ≤ hi ∧ lo < t then lo else 0
def spBeh (lo hi t : Int) : Int := if lo ≤ hi ∧ lo < t then (if t ≤ hi + 1 then t else hi + 1) else 0
theorem int_eq {a b : Int} (h : a = b) : Value.int .i64 a = Value.int .i64 b := by rw [h]

set_option maxHeartbeats 4000000 in
theorem rspan_any (n f u : Int) (hn : I64 n) (hf : I64 f) (hu : I64 u) (w : World) :
    Calls Try.prog 11 #[.int .i64 n, .int .i64 f, .int .i64 u] w fun e w' => e = .returned (.tuple #[.int .i64 (spanA n f u), .int .i64 (spanB n f u)]) ∧ w = w' := by
  obtain ⟨hn0, hn1⟩ := hn
  obtain ⟨hf0, hf1⟩ := hf
  obtain ⟨hu0, hu1⟩ := hu
  obtain ⟨lo, hlo⟩ : ∃ lo, spanLo n f = lo := ⟨_, rfl⟩
  obtain ⟨hi, hhi⟩ : ∃ hi, spanHi n u = hi := ⟨_, rfl⟩
  have HA : Hid (spanA n f u = if n < 1 then 0 else if hi < lo then 0 else lo) := by unfold spanA; rw [hlo, hhi]; exact rfl
  have HB : Hid (spanB n f u = if n < 1 then 0 else if hi < lo then 0 else hi + 1) := by unfold spanB; rw [hlo, hhi]; exact rfl
  have HL := hide hlo
  have HH := hide hhi
  clear hlo hhi
  go_enter Try.func11, Try.ntmps11
  go_wp2_with fail
  go_loopw [8, 9, 10] (fun x y i wr => ∃ t : Nat, x = .int .i64 (spFst lo hi t) ∧ y = .int .i64 (spBeh lo hi t) ∧ i = .int .i64 t ∧ (t = 0 ∨ (t : Int) ≤ n) ∧ wr = w)
    (fun _ _ i _ => (n - intOf i).toNat)
  case atStart =>
    have h0 : 0 ≤ lo := by have := HL.out; unfold spanLo at this; split at this <;> (try split at this) <;> omega
    refine ⟨0, int_eq ?_, int_eq ?_, rfl, .inl rfl, rfl⟩
    · unfold spFst; rw [if_neg]; omega
    · unfold spBeh; rw [if_neg]; omega
  case round =>
    obtain ⟨t, rfl, rfl, rfl, ht, rfl⟩ := hrel
    have h0 : 0 ≤ lo := by have := HL.out; unfold spanLo at this; split at this <;> (try split at this) <;> omega
    by_cases htn : (t : Int) < n
    · have hw1 : IntKind.i64.wrap ((t : Int) - n) = (t : Int) - n := IntWalk.i64_in _ (by omega)
      have hw2 : IntKind.i64.wrap ((t : Int) + 1) = (t : Int) + 1 := IntWalk.i64_in _ (by omega)
      have hA : ((f < 0 ∧ f ≤ (t : Int) - n) ∨ (¬ f < 0 ∧ f ≤ (t : Int))) ↔ lo ≤ t := by
        have := HL.out
        unfold spanLo at this
        split at this <;> (try split at this) <;> omega
      have hB : ((u < 0 ∧ (t : Int) - n ≤ u) ∨ (¬ u < 0 ∧ (t : Int) ≤ u)) ↔ (t : Int) ≤ hi := by
        have := HH.out
        unfold spanHi at this
        split at this <;> (try split at this) <;> omega
      have hcase : ¬ (lo ≤ t) ∨ (lo ≤ t ∧ (t : Int) ≤ hi) ∨ (lo ≤ t ∧ ¬ (t : Int) ≤ hi) := by omega
      rcases hcase with h | ⟨h, h'⟩ | ⟨h, h'⟩
      · have e1 : spFst lo hi t = spFst lo hi ((t : Int) + 1) := by unfold spFst; (repeat' split) <;> omega
        have e2 : spBeh lo hi t = spBeh lo hi ((t : Int) + 1) := by unfold spBeh; (repeat' split) <;> omega
        have HE1 := hide e1
        have HE2 := hide e2
        clear e1 e2
        by_cases hf : f < 0
        · have k1 : ¬ f ≤ (t : Int) - n := by omega
          clear hA hB h
          go_wp2_with fail
          go_roundw
          case rel => exact ⟨t + 1, int_eq HE1.out, int_eq HE2.out, by simp, .inr (by omega), by first | rfl | trivial⟩
          case measure => simp [intOf]; omega
        · have k1 : ¬ f ≤ (t : Int) := by omega
          clear hA hB h
          go_wp2_with fail
          go_roundw
          case rel => exact ⟨t + 1, int_eq HE1.out, int_eq HE2.out, by simp, .inr (by omega), by first | rfl | trivial⟩
          case measure => simp [intOf]; omega
      · have e2 : (t : Int) + 1 = spBeh lo hi ((t : Int) + 1) := by unfold spBeh; (repeat' split) <;> omega
        have HE2 := hide e2
        clear e2
        by_cases hlt : lo < t
        · have e1 : spFst lo hi t = spFst lo hi ((t : Int) + 1) := by unfold spFst; (repeat' split) <;> omega
          have HE1 := hide e1
          have hz : (spBeh lo hi t == 0) = false := by simp only [beq_eq_false_iff_ne, ne_eq]; unfold spBeh; (repeat' split) <;> omega
          clear e1
          by_cases hf : f < 0
          · have k1 : f ≤ (t : Int) - n := by omega
            by_cases hu : u < 0
            · have k2 : (t : Int) - n ≤ u := by omega
              clear hA hB h h' hlt
              go_wp2_with fail
              go_roundw
              case rel => exact ⟨t + 1, int_eq HE1.out, int_eq HE2.out, by simp, .inr (by omega), by first | rfl | trivial⟩
              case measure => simp [intOf]; omega
            · have k2 : (t : Int) ≤ u := by omega
              clear hA hB h h' hlt
              go_wp2_with fail
              go_roundw
              case rel => exact ⟨t + 1, int_eq HE1.out, int_eq HE2.out, by simp, .inr (by omega), by first | rfl | trivial⟩
              case measure => simp [intOf]; omega
          · have k1 : f ≤ (t : Int) := by omega
            by_cases hu : u < 0
            · have k2 : (t : Int) - n ≤ u := by omega
              clear hA hB h h' hlt
              go_wp2_with fail
              go_roundw
              case rel => exact ⟨t + 1, int_eq HE1.out, int_eq HE2.out, by simp, .inr (by omega), by first | rfl | trivial⟩
              case measure => simp [intOf]; omega
            · have k2 : (t : Int) ≤ u := by omega
              clear hA hB h h' hlt
              go_wp2_with fail
              go_roundw
              case rel => exact ⟨t + 1, int_eq HE1.out, int_eq HE2.out, by simp, .inr (by omega), by first | rfl | trivial⟩
              case measure => simp [intOf]; omega
        · have e1 : (t : Int) = spFst lo hi ((t : Int) + 1) := by unfold spFst; (repeat' split) <;> omega
          have HE1 := hide e1
          have hz : (spBeh lo hi t == 0) = true := by simp only [beq_iff_eq]; unfold spBeh; (repeat' split) <;> omega
          clear e1
          by_cases hf : f < 0
          · have k1 : f ≤ (t : Int) - n := by omega
            by_cases hu : u < 0
            · have k2 : (t : Int) - n ≤ u := by omega
              clear hA hB h h' hlt
              go_wp2_with fail
              go_roundw
              case rel => exact ⟨t + 1, int_eq HE1.out, int_eq HE2.out, by simp, .inr (by omega), by first | rfl | trivial⟩
              case measure => simp [intOf]; omega
            · have k2 : (t : Int) ≤ u := by omega
              clear hA hB h h' hlt
              go_wp2_with fail
              go_roundw
              case rel => exact ⟨t + 1, int_eq HE1.out, int_eq HE2.out, by simp, .inr (by omega), by first | rfl | trivial⟩
              case measure => simp [intOf]; omega
          · have k1 : f ≤ (t : Int) := by omega
            by_cases hu : u < 0
            · have k2 : (t : Int) - n ≤ u := by omega
              clear hA hB h h' hlt
              go_wp2_with fail
              go_roundw
              case rel => exact ⟨t + 1, int_eq HE1.out, int_eq HE2.out, by simp, .inr (by omega), by first | rfl | trivial⟩
              case measure => simp [intOf]; omega
            · have k2 : (t : Int) ≤ u := by omega
              clear hA hB h h' hlt
              go_wp2_with fail
              go_roundw
              case rel => exact ⟨t + 1, int_eq HE1.out, int_eq HE2.out, by simp, .inr (by omega), by first | rfl | trivial⟩
              case measure => simp [intOf]; omega
      · have e1 : spFst lo hi t = spFst lo hi ((t : Int) + 1) := by unfold spFst; (repeat' split) <;> omega
        have e2 : spBeh lo hi t = spBeh lo hi ((t : Int) + 1) := by unfold spBeh; (repeat' split) <;> omega
        have HE1 := hide e1
        have HE2 := hide e2
        clear e1 e2
        by_cases hf : f < 0
        · have k1 : f ≤ (t : Int) - n := by omega
          by_cases hu : u < 0
          · have k2 : ¬ (t : Int) - n ≤ u := by omega
            clear hA hB h h'
            go_wp2_with fail
            go_roundw
            case rel => exact ⟨t + 1, int_eq HE1.out, int_eq HE2.out, by simp, .inr (by omega), by first | rfl | trivial⟩
            case measure => simp [intOf]; omega
          · have k2 : ¬ (t : Int) ≤ u := by omega
            clear hA hB h h'
            go_wp2_with fail
            go_roundw
            case rel => exact ⟨t + 1, int_eq HE1.out, int_eq HE2.out, by simp, .inr (by omega), by first | rfl | trivial⟩
            case measure => simp [intOf]; omega
        · have k1 : f ≤ (t : Int) := by omega
          by_cases hu : u < 0
          · have k2 : ¬ (t : Int) - n ≤ u := by omega
            clear hA hB h h'
            go_wp2_with fail
            go_roundw
            case rel => exact ⟨t + 1, int_eq HE1.out, int_eq HE2.out, by simp, .inr (by omega), by first | rfl | trivial⟩
            case measure => simp [intOf]; omega
          · have k2 : ¬ (t : Int) ≤ u := by omega
            clear hA hB h h'
            go_wp2_with fail
            go_roundw
            case rel => exact ⟨t + 1, int_eq HE1.out, int_eq HE2.out, by simp, .inr (by omega), by first | rfl | trivial⟩
            case measure => simp [intOf]; omega
    · have hh : hi ≤ n - 1 ∨ n < 1 ∨ u < 0 := by
        have := HH.out
        unfold spanHi at this
        split at this <;> (try split at this) <;> omega
      have hh2 : u < 0 → hi ≤ n - 1 := by
        intro hu
        have := HH.out
        unfold spanHi at this
        rw [if_pos hu] at this
        omega
      have e1 : spFst lo hi t = spanA n f u := by rw [HA.out]; unfold spFst; (repeat' split) <;> omega
      have e2 : spBeh lo hi t = spanB n f u := by rw [HB.out]; unfold spBeh; (repeat' split) <;> omega
      have HE1 := hide e1
      have HE2 := hide e2
      clear e1 e2 hh hh2
      go_wp2_with fail
      go_ret2
      exact ⟨ret_pair HE1.out HE2.out, rfl⟩
end Go.Proofs.Ytlglelgnpkdnbaa
