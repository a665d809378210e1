/- The walk of the law SumsDigest: it returns true at every input. -/
import Derived.Test.YtiheldbiaamabaaRefD
namespace Go.Proofs.Ytiheldbiaamabaa
open Go.RowKit
set_option linter.unusedVariables false

set_option maxHeartbeats 1000000 in
theorem sumsDigest_any (A : Option Addr) (n c : Nat) (l : List UInt8) (w : World) (hr : Reads w w.heap.size 1 A n (bvs l)) (hm : n ≤ maxLen) :
    Calls Try.prog 8 #[.slice A n c] w fun e w' => e = .returned (.bool true) ∧ Below w.heap.size w w' := by
  by_cases hn : n ≤ 3000
  · have hnI : ¬ (3000 : Int) < (n : Int) := by omega
    have hl := hide hr.blen
    go_enter Try.func8, Try.ntmps8
    go_wp2_with (first
      | (go_at_call 13; refine (lent_any A n c l w hr (by omega)).mono ?_; rintro e w1 ⟨g, c1, rfl, hc1, hc2, hg1, hg2, hm1, hb1⟩))
    have hr1 := (hr.below hb1)
    have hmf : Reads w1 w1.heap.size 1 (some ⟨g, 0, none⟩) n (bvs l) := by
      have := hm1.front (m := n) (by omega)
      rwa [List.take_append_of_le_length (by rw [hl.out]; omega), List.take_of_length_le (by rw [hl.out]; omega)] at this
    go_wp2_with fail
    refine (digest_any _ n c1 l w1 hmf (by omega)).mono ?_
    rintro e w2 ⟨rfl, hb2⟩
    have hr2 := (hr1.below' hb2 (by have := hb1.size; omega)).more (by have := hb1.size; have := hb2.size; omega : w.heap.size ≤ w2.heap.size)
    have hm2 := (hm1.below hb2)
    have hbw := hb1.trans (hb2.mono hb1.size)
    go_wp2_with fail
    refine (rdigest_any A n c l w2 hr2 (by omega)).mono ?_
    rintro e w3 ⟨rfl, hb3⟩
    generalize (⟨(textOf (digSt l)).toArray⟩ : ByteArray) = S
    have hr3 := (hr2.below hb3).more hb3.size
    have hm3 := (hm2.below' hb3 (by have := hb2.size; omega))
    have hbw3 := hbw.trans (hb3.mono hbw.size)
    go_wp2_with fail
    refine (kept_any g n c1 A c l w3 hm3 hc1 hc2 hr3).mono ?_
    rintro e w3' ⟨rfl, rfl⟩
    go_wp2_with fail
    refine (works_any w3).mono ?_
    rintro e w4 ⟨rfl, hb4⟩
    go_wp2_with fail
    go_ret
    exact ⟨ret_bool rfl, hbw3.trans (hb4.mono hbw3.size)⟩
  · have hnI : (3000 : Int) < (n : Int) := by omega
    go_enter Try.func8, Try.ntmps8
    go_wp2_with (first
      | (go_at_call 12; refine (works_any _).mono ?_; rintro e w1 ⟨rfl, hb1⟩))
    go_ret
    exact ⟨ret_bool rfl, hb1⟩
end Go.Proofs.Ytiheldbiaamabaa
