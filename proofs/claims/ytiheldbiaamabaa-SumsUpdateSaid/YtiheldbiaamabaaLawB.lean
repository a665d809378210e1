/- The walk of the law SumsUpdate: it returns true at every input. -/
import Derived.Test.YtiheldbiaamabaaWorks
import Derived.Test.YtiheldbiaamabaaCrcLaw
namespace Go.Proofs.Ytiheldbiaamabaa
open Go.RowKit
set_option linter.unusedVariables false

set_option maxHeartbeats 1000000 in
theorem sumsUpdate_any (s : Nat) (hs : s < 4294967296) (A : Option Addr) (n c : Nat) (l : List UInt8) (w : World) (hr : Reads w w.heap.size 1 A n (bvs l)) (hm : n ≤ maxLen) :
    Calls Try.prog 4 #[.int .u32 s, .slice A n c] w fun e w' => e = .returned (.bool true) ∧ Below w.heap.size w w' := by
  by_cases hn : n ≤ 10000
  · have hnI : ¬ (10000 : Int) < (n : Int) := by omega
    have hl := hide hr.blen
    have hsame := hide (crcUpd_ref s l)
    go_enter Try.func4, Try.ntmps4
    go_wp2_with (first
      | (go_at_call 13; refine (lent_any A n c l w hr (by omega)).mono ?_; rintro e w1 ⟨g, c1, rfl, hc1, hc2, hg1, hg2, hm1, hb1⟩))
    have hr1 := (hr.below hb1)
    have hmf : Reads w1 w1.heap.size 1 (some ⟨g, 0, none⟩) n (bvs l) := by
      have := hm1.front (m := n) (by omega)
      rwa [List.take_append_of_le_length (by rw [hl.out]; omega), List.take_of_length_le (by rw [hl.out]; omega)] at this
    go_wp2_with fail
    refine (update_any s hs _ n c1 l w1 hmf (by omega)).mono ?_
    rintro e w2 ⟨rfl, hb2⟩
    have hr2 := hr1.below' hb2 (by have := hb1.size; omega)
    have hm2 := (hm1.below hb2)
    have hbw := hb1.trans (hb2.mono hb1.size)
    go_wp2_with fail
    refine (rupdate_any s hs A n c l w2 hr2 hm).mono ?_
    rintro e w2' ⟨rfl, rfl⟩
    rw [hsame.out]
    generalize refUpd s l = q
    go_wp2_with fail
    refine (kept_any g n c1 A c l w2 hm2 hc1 hc2 hr2).mono ?_
    rintro e w2' ⟨rfl, rfl⟩
    go_wp2_with fail
    refine (works_any w2).mono ?_
    rintro e w3 ⟨rfl, hb3⟩
    go_wp2_with fail
    go_ret
    exact ⟨ret_bool rfl, hbw.trans (hb3.mono hbw.size)⟩
  · have hnI : (10000 : Int) < (n : Int) := by omega
    go_enter Try.func4, Try.ntmps4
    go_wp2_with (first
      | (go_at_call 12; refine (works_any _).mono ?_; rintro e w1 ⟨rfl, hb1⟩))
    go_ret
    exact ⟨ret_bool rfl, hb1⟩
end Go.Proofs.Ytiheldbiaamabaa
