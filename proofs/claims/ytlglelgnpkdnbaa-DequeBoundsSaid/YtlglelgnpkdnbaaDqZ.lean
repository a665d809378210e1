/- The walk of the law's is, and of the law DequePops. Conditions: those of each theorem. -/
import Derived.Test.YtlglelgnpkdnbaaDqY
namespace Go.Proofs.Ytlglelgnpkdnbaa
open Go.RowKit
set_option linter.unusedVariables false

set_option maxHeartbeats 1000000 in
theorem is_any {B g : Nat} {l : List ByteArray} (A : Option Addr) (n c : Nat) (w : World) (h : DQ B w g l) (hl : l.length ≤ 65536) (hr : Reads w w.heap.size 1 A n (svs l)) :
    Calls Try.prog 19 #[.pointer (some ⟨g, 0, none⟩), .slice A n c] w fun e w' => e = .returned (.bool true) ∧ Below w.heap.size w w' := by
  have hln := hr.slen
  subst hln
  obtain ⟨n, hn⟩ : ∃ n, l.length = n := ⟨_, rfl⟩
  have HN := hide hn
  rw [hn] at hr hl
  rw [hn]
  clear hn
  go_enter Try.func19, Try.ntmps19
  go_wp2_with (first
    | (go_at_call 29
       go_must (
       refine (lawAll_any w h (by rw [HN.out]; omega)).mono ?_
       rintro e w1 ⟨v1, rfl, ho1, hb1⟩
       rw [HN.out] at ho1
       obtain ⟨A1, c1, rfl, hc11, hc12⟩ := own_slice ho1
       have hD1 := h.below hb1
       have hr1 := (hr.below hb1).more hb1.size))
    | (go_at_call_of 24 (Value.slice A1 n c1)
       go_must (
       refine (same_like A1 n c1 A c l w1 (Reads.of_own ho1) hr1 (by omega)).mono ?_
       rintro e w2 ⟨rfl, hb2⟩
       have hD2 := hD1.below hb2
       have hr2 := (hr1.below hb2).more hb2.size
       have hbw2 := hb1.trans (hb2.mono hb1.size)
       obtain ⟨A0, len0, cap0, first0, ring0, hx0⟩ := id hD2
       have hBk0 := hx0.1
       rw [HN.out] at hBk0))
    | (go_at_call 21
       go_must (
       refine (len_any g _ _ n w2 hBk0).mono ?_
       rintro e w2' ⟨rfl, rfl⟩))
    | (go_at_call 23
       go_must (
       refine (range_any w2 hD2 0 (-1) ⟨by decide, by decide⟩ ⟨by decide, by decide⟩).mono ?_
       rintro e w3 ⟨v3, rfl, ho3, hb3⟩
       rw [rangeOf_all, HN.out] at ho3
       obtain ⟨A3, c3, rfl, hc31, hc32⟩ := own_slice ho3
       have hr3 := (hr2.below hb3).more hb3.size
       have hbw3 := hbw2.trans (hb3.mono hbw2.size)))
    | (go_at_call 24
       go_must (
       refine (same_like A3 n c3 A c l w3 (Reads.of_own ho3) hr3 (by omega)).mono ?_
       rintro e w4 ⟨rfl, hb4⟩
       have hbw4 := hbw3.trans (hb4.mono hbw3.size)))
    | fail)
  go_ret
  exact ⟨ret_bool rfl, hbw4⟩
end Go.Proofs.Ytlglelgnpkdnbaa
