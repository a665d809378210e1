/- The walks of Span and Place (package deque), and of the document's Span and Place, and what both answer. Conditions: those of each theorem. -/
import Derived.Test.YtlglelgnpkdnbaaRows
import Derived.Test.YtlglelgnpkdnbaaLib
import Derived.WalkKit
import Derived.IntWalk
namespace Go.Proofs.Ytlglelgnpkdnbaa
open Go.RowKit
set_option linter.unusedVariables false

def spanLo (n f : Int) : Int := if f < 0 then (if 0 < f + n then f + n else 0) else f
def spanHi (n u : Int) : Int := if u < 0 then u + n else (if u < n - 1 then u else n - 1)
def spanA (n f u : Int) : Int := if n < 1 then 0 else if spanHi n u < spanLo n f then 0 else spanLo n f
def spanB (n f u : Int) : Int := if n < 1 then 0 else if spanHi n u < spanLo n f then 0 else spanHi n u + 1

def I64 (n : Int) : Prop := -9223372036854775808 ≤ n ∧ n ≤ 9223372036854775807
theorem ret_pair {a b a' b' : Int} (h1 : a = a') (h2 : b = b') : Ending.returned (.tuple #[.int .i64 a, .int .i64 b]) = Ending.returned (.tuple #[.int .i64 a', .int .i64 b']) := by rw [h1, h2]

set_option maxHeartbeats 1000000 in
theorem span_any (n f u : Int) (hn : I64 n) (hf : I64 f) (hu : I64 u) (w : World) :
    Calls Try.prog 10 #[.int .i64 n, .int .i64 f, .int .i64 u] w fun e w' => e = .returned (.tuple #[.int .i64 (spanA n f u), .int .i64 (spanB n f u)]) ∧ w = w' := by
  obtain ⟨hn0, hn1⟩ := hn
  obtain ⟨hf0, hf1⟩ := hf
  obtain ⟨hu0, hu1⟩ := hu
  by_cases h1 : n < 1
  · rw [show spanA n f u = 0 by unfold spanA; rw [if_pos h1], show spanB n f u = 0 by unfold spanB; rw [if_pos h1]]
    go_enter Try.func10, Try.ntmps10
    go_wp2_with fail
    go_ret2
    exact ⟨rfl, rfl⟩
  · have hwn : IntKind.i64.wrap (n - 1) = n - 1 := IntWalk.i64_in _ (by omega)
    by_cases h2 : f < 0
    · have hwf : IntKind.i64.wrap (f + n) = f + n := IntWalk.i64_in _ (by omega)
      go_enter Try.func10, Try.ntmps10
      go_wp2_with fail
      all_goals go_ret2
      all_goals (refine ⟨ret_pair ?_ ?_, rfl⟩ <;> simp only [spanA, spanB, spanLo, spanHi] <;> (repeat' split) <;> omega)
    · go_enter Try.func10, Try.ntmps10
      go_wp2_with fail
      all_goals go_ret2
      all_goals (refine ⟨ret_pair ?_ ?_, rfl⟩ <;> simp only [spanA, spanB, spanLo, spanHi] <;> (repeat' split) <;> omega)

def placeI (n a : Int) : Int := if a < 0 then (if n < 0 then a else a + n) else a
def placeOk (n a : Int) : Bool := decide (0 ≤ placeI n a ∧ placeI n a < n)
def placeA (n a : Int) : Int := if placeOk n a then placeI n a else 0
theorem ret_place {a a' : Int} {b b' : Bool} (h1 : a = a') (h2 : b = b') : Ending.returned (.tuple #[.int .i64 a, .bool b]) = Ending.returned (.tuple #[.int .i64 a', .bool b']) := by rw [h1, h2]

theorem place_any (n a : Int) (hn : I64 n) (ha : I64 a) (w : World) :
    Calls Try.prog 12 #[.int .i64 n, .int .i64 a] w fun e w' => e = .returned (.tuple #[.int .i64 (placeA n a), .bool (placeOk n a)]) ∧ w = w' := by
  obtain ⟨hn0, hn1⟩ := hn
  obtain ⟨ha0, ha1⟩ := ha
  by_cases h2 : a < 0
  · by_cases h3 : n < 0
    · have hp : placeOk n a = false := by simp [placeOk, placeI, h2, h3]; omega
      have hpa : placeA n a = 0 := by unfold placeA; rw [hp]; rfl
      rw [hp, hpa]
      go_enter Try.func12, Try.ntmps12
      go_wp2_with fail
      all_goals go_ret2
      all_goals exact ⟨rfl, rfl⟩
    · have hwf : IntKind.i64.wrap (a + n) = a + n := IntWalk.i64_in _ (by omega)
      have hpi : placeI n a = a + n := by unfold placeI; rw [if_pos h2, if_neg h3]
      by_cases h4 : a + n < 0
      · have hp : placeOk n a = false := by simp [placeOk, hpi]; omega
        have hpa : placeA n a = 0 := by unfold placeA; rw [hp]; rfl
        rw [hp, hpa]
        clear hp hpa hpi
        go_enter Try.func12, Try.ntmps12
        go_wp2_with fail
        all_goals go_ret2
        all_goals exact ⟨rfl, rfl⟩
      · have h5 : a + n < n := by omega
        have hp : placeOk n a = true := by simp [placeOk, hpi]; omega
        have hpa : placeA n a = a + n := by unfold placeA; rw [hp, hpi]; rfl
        rw [hp, hpa]
        clear hp hpa hpi
        go_enter Try.func12, Try.ntmps12
        go_wp2_with fail
        all_goals go_ret2
        all_goals exact ⟨rfl, rfl⟩
  · have hpi : placeI n a = a := by unfold placeI; rw [if_neg h2]
    by_cases h4 : a < n
    · have hp : placeOk n a = true := by simp [placeOk, hpi]; omega
      have hpa : placeA n a = a := by unfold placeA; rw [hp, hpi]; rfl
      rw [hp, hpa]
      clear hp hpa hpi
      go_enter Try.func12, Try.ntmps12
      go_wp2_with fail
      all_goals go_ret2
      all_goals exact ⟨rfl, rfl⟩
    · have hp : placeOk n a = false := by simp [placeOk, hpi]; omega
      have hpa : placeA n a = 0 := by unfold placeA; rw [hp]; rfl
      rw [hp, hpa]
      clear hp hpa hpi
      go_enter Try.func12, Try.ntmps12
      go_wp2_with fail
      all_goals go_ret2
      all_goals exact ⟨rfl, rfl⟩

theorem rplace_any (n a : Int) (hn : I64 n) (ha : I64 a) (w : World) :
    Calls Try.prog 13 #[.int .i64 n, .int .i64 a] w fun e w' => e = .returned (.tuple #[.int .i64 (placeA n a), .bool (placeOk n a)]) ∧ w = w' := by
  obtain ⟨hn0, hn1⟩ := hn
  obtain ⟨ha0, ha1⟩ := ha
  obtain ⟨p, hp⟩ : ∃ p, placeI n a = p := ⟨_, rfl⟩
  have hpos : placeOk n a = decide (0 ≤ p ∧ p < n) := by unfold placeOk; rw [hp]
  have hpa : placeA n a = if (0 ≤ p ∧ p < n) then p else 0 := by unfold placeA; rw [hpos, hp]; simp
  have HPD : Hid (placeI n a = p) := hp
  have HPO := hide hpos
  have HPA := hide hpa
  clear hp hpos hpa
  go_enter Try.func13, Try.ntmps13
  go_wp2_with fail
  go_loopw [6] (fun i wr => ∃ t : Nat, i = .int .i64 t ∧ (t = 0 ∨ (t : Int) ≤ n) ∧ (0 ≤ p → (t : Int) ≤ p ∨ n ≤ p) ∧ wr = w)
    (fun i _ => (n - intOf i).toNat)
  case atStart => exact ⟨0, rfl, .inl rfl, fun h => .inl (by omega), rfl⟩
  case round =>
    obtain ⟨t, rfl, ht, hq, rfl⟩ := hrel
    by_cases htn : (t : Int) < n
    · have hw1 : IntKind.i64.wrap ((t : Int) - n) = (t : Int) - n := IntWalk.i64_in _ (by omega)
      have hw2 : IntKind.i64.wrap ((t : Int) + 1) = (t : Int) + 1 := IntWalk.i64_in _ (by omega)
      have hhit : ((t : Int) = a ∨ (t : Int) - n = a) ↔ (t : Int) = p := by
        have := HPD.out
        unfold placeI at this
        split at this <;> (try split at this) <;> omega
      by_cases hp : (t : Int) = p
      · have hok : placeOk n a = true := by rw [HPO.out]; simp; omega
        have hpA : placeA n a = (t : Int) := by rw [HPA.out, if_pos (by omega), hp]
        by_cases h1 : (t : Int) = a
        · have hb1 : ((t : Int) == a) = true := by simpa using h1
          have HO := hide hok
          have HA := hide hpA
          clear hok hpA h1 hp hhit
          go_wp2_with fail
          all_goals go_ret2
          all_goals exact ⟨ret_place HA.out.symm HO.out.symm, rfl⟩
        · have h2 : (t : Int) - n = a := by rcases hhit.2 hp with h | h; exact absurd h h1; exact h
          have hb1 : ((t : Int) == a) = false := by simpa using h1
          have hb2 : (((t : Int) - n) == a) = true := by simpa using h2
          have HO := hide hok
          have HA := hide hpA
          clear hok hpA h1 h2 hp hhit
          go_wp2_with fail
          all_goals go_ret2
          all_goals exact ⟨ret_place HA.out.symm HO.out.symm, rfl⟩
      · have h1 : ¬ (t : Int) = a := fun h => hp (hhit.1 (.inl h))
        have h2 : ¬ (t : Int) - n = a := fun h => hp (hhit.1 (.inr h))
        have hb1 : ((t : Int) == a) = false := by simpa using h1
        have hb2 : (((t : Int) - n) == a) = false := by simpa using h2
        go_wp2_with fail
        go_roundw
        case rel => exact ⟨t + 1, by simp, .inr (by omega), fun h => by rcases hq h with h' | h'; exact .inl (by omega); exact .inr h', by first | rfl | trivial⟩
        case measure => simp [intOf]; omega
    · have hok : placeOk n a = false := by rw [HPO.out]; simp; omega
      have hpA : placeA n a = 0 := by rw [HPA.out, if_neg]; omega
      have HO := hide hok
      have HA := hide hpA
      clear hok hpA
      go_wp2_with fail
      all_goals go_ret2
      all_goals exact ⟨ret_place HA.out.symm HO.out.symm, rfl⟩
end Go.Proofs.Ytlglelgnpkdnbaa
