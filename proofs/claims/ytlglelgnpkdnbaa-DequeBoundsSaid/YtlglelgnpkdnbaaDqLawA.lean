/- The walks of the laws DequeSpans, DequePlaces: they return true at every input. -/
import Derived.Test.YtlglelgnpkdnbaaDqW
namespace Go.Proofs.Ytlglelgnpkdnbaa
open Go.RowKit
set_option linter.unusedVariables false

theorem i64_wf {n : Int} (h : (Lit.int .i64 n).wf = true) : I64 n := by
  have h2 : IntKind.i64.min ≤ n ∧ n ≤ IntKind.i64.max := by simpa [Lit.wf] using h
  have h3 : IntKind.i64.min = -9223372036854775808 := by decide
  have h4 : IntKind.i64.max = 9223372036854775807 := by decide
  exact ⟨by omega, by omega⟩
theorem dequeSpans_any (n f u : Int) (hn : I64 n) (hf : I64 f) (hu : I64 u) (w : World) :
    Calls Try.prog 3 #[.int .i64 n, .int .i64 f, .int .i64 u] w fun e w' => e = .returned (.bool true) ∧ Below w.heap.size w w' := by
  by_cases h : 1000 < n
  · go_enter Try.func3, Try.ntmps3
    go_wp2_with (first
      | (go_at_call 9; refine (works_any _).mono ?_; rintro e w1 ⟨rfl, hb1⟩)
      | fail)
    go_ret
    exact ⟨rfl, hb1⟩
  · have hs := span_any n f u hn hf hu
    have hr := rspan_any n f u hn hf hu
    generalize spanA n f u = a at *
    generalize spanB n f u = b at *
    go_enter Try.func3, Try.ntmps3
    go_wp2_with (first
      | (go_at_call 10; refine (hs w).mono ?_; rintro e w1 ⟨rfl, rfl⟩)
      | (go_at_call 11; refine (hr w).mono ?_; rintro e w1 ⟨rfl, rfl⟩)
      | (go_at_call 9; refine (works_any w).mono ?_; rintro e w1 ⟨rfl, hb1⟩)
      | fail)
    go_ret
    exact ⟨rfl, hb1⟩
theorem dequePlaces_any (n a : Int) (hn : I64 n) (ha : I64 a) (w : World) :
    Calls Try.prog 4 #[.int .i64 n, .int .i64 a] w fun e w' => e = .returned (.bool true) ∧ Below w.heap.size w w' := by
  by_cases h : 1000 < n
  · go_enter Try.func4, Try.ntmps4
    go_wp2_with (first
      | (go_at_call 9; refine (works_any _).mono ?_; rintro e w1 ⟨rfl, hb1⟩)
      | fail)
    go_ret
    exact ⟨rfl, hb1⟩
  · have hs := place_any n a hn ha
    have hr := rplace_any n a hn ha
    generalize placeA n a = p at *
    generalize placeOk n a = ok at *
    go_enter Try.func4, Try.ntmps4
    go_wp2_with (first
      | (go_at_call 12; refine (hs w).mono ?_; rintro e w1 ⟨rfl, rfl⟩)
      | (go_at_call 13; refine (hr w).mono ?_; rintro e w1 ⟨rfl, rfl⟩)
      | (go_at_call 9; refine (works_any w).mono ?_; rintro e w1 ⟨rfl, hb1⟩)
      | fail)
    go_ret
    exact ⟨rfl, hb1⟩
end Go.Proofs.Ytlglelgnpkdnbaa
