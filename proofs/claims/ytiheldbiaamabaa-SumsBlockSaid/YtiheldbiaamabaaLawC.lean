/- The walk of the law SumsPads: it returns true at every input. -/
import Derived.Test.YtiheldbiaamabaaWorks
import Derived.Test.YtiheldbiaamabaaPad
namespace Go.Proofs.Ytiheldbiaamabaa
open Go.RowKit
set_option linter.unusedVariables false

/-- a row that is owned, as a slice that reads -/
theorem own_reads {w : World} {base : Nat} {e : TypeId} {v : Value} {n : Nat} {xs : List Value} (h : w.ownsRow base e 1 v n xs) (hn : 0 < n) :
    ∃ g c, v = .slice (some ⟨g, 0, none⟩) n c ∧ n ≤ c ∧ c ≤ maxLen ∧ base ≤ g ∧ g < w.heap.size ∧ Reads w w.heap.size 1 (some ⟨g, 0, none⟩) n xs := by
  obtain ⟨g, c, rfl, h1, h2, h3, h4⟩ := own_form h hn
  exact ⟨g, c, rfl, h1, h2, h3, h4, Reads.of_own h⟩
theorem padded_pos (l : List UInt8) : 0 < (padded l).length := by rw [padded_length]; omega

theorem undrew {B : Nat} {w w' : World} (h : Below B w.drew w') : Below B w w' := ⟨h.os, h.tape, h.output, h.size, h.block⟩

set_option maxHeartbeats 1000000 in
theorem sumsPads_any (A : Option Addr) (n c : Nat) (l : List UInt8) (w : World) (hr : Reads w w.heap.size 1 A n (bvs l)) (hm : n ≤ maxLen) :
    Calls Try.prog 6 #[.slice A n c] w fun e w' => e = .returned (.bool true) ∧ Below w.heap.size w w' := by
  by_cases hn : n ≤ 10000
  · have hnI : ¬ (10000 : Int) < (n : Int) := by omega
    have hl := hide hr.blen
    have hpos := padded_pos l
    go_enter Try.func6, Try.ntmps6
    go_wp2_with (first
      | (go_at_call 13; refine (lent_any A n c l w hr (by omega)).mono ?_; rintro e w1 ⟨g, c1, rfl, hc1, hc2, hg1, hg2, hm1, hb1⟩))
    have hr1 := (hr.below hb1)
    have hmf : Reads w1 w1.heap.size 1 (some ⟨g, 0, none⟩) n (bvs l) := by
      have := hm1.front (m := n) (by omega)
      rwa [List.take_append_of_le_length (by rw [hl.out]; omega), List.take_of_length_le (by rw [hl.out]; omega)] at this
    generalize hN : (padded l).length = N at hpos
    have HN := hide hN
    clear hN
    go_region_with (first
      | (go_at_call 24
         go_loud (
         refine (pad_any _ n c1 l w1.drew hmf (by omega)).mono ?_
         rintro e w2 ⟨v2, rfl, hown2, hb2⟩
         replace hb2 : Below w1.heap.size w1 w2 := undrew hb2
         rw [HN.out] at hown2
         obtain ⟨g2, cap2, rfl, hcap2, hcm2, hg2, hgl2, hrd2⟩ := own_reads hown2 hpos
         replace hg2 : w1.heap.size ≤ g2 := hg2
         have hr2 := hr1.below' hb2 (by have := hb1.size; omega)
         have hr2' := (hr.below (hb1.trans (hb2.mono hb1.size))).more (hb1.trans (hb2.mono hb1.size)).size
         have hm2 := (hm1.below hb2)
         have hbw := hb1.trans (hb2.mono hb1.size)
         have hcv2 := run_bytes_str (P := Try.prog) 22 9 5 Try.underlying22 Try.underlying5 Try.underlying9 hrd2 cap2
         generalize hS : (⟨(padded l).toArray⟩ : ByteArray) = S at hcv2
         have HS := hide hS
         clear hS))
      | (go_at_call 25
         go_loud (
         refine (rpad_any _ n c l w2 hr2' (by omega)).mono ?_
         rintro e w3 ⟨v3, rfl, hown3, hb3⟩
         rw [HN.out] at hown3
         obtain ⟨g3, cap3, rfl, hcap3, hcm3, hg3, hgl3, hrd3⟩ := own_reads hown3 hpos
         have hr3 := hr2.below' hb3 (by have := hb1.size; have := hb2.size; omega)
         have hm3 := (hm2.below' hb3 (by have := hb2.size; omega))
         have hbw3 := hbw.trans (hb3.mono hbw.size)
         have hcv2' := run_bytes_str (P := Try.prog) 22 9 5 Try.underlying22 Try.underlying5 Try.underlying9 (hrd2.below hb3) cap2
         have hcv3 := run_bytes_str (P := Try.prog) 22 9 5 Try.underlying22 Try.underlying5 Try.underlying9 hrd3 cap3
         rw [HS.out] at hcv3 hcv2'))
      | (go_at_call 16
         go_loud (
         refine (kept_any g n c1 A c l w3 hm3 hc1 hc2 hr3).mono ?_
         rintro e w3' ⟨rfl, rfl⟩))
      | (go_at_call 12
         go_loud (
         refine (works_any w3).mono ?_
         rintro e w4 ⟨rfl, hb4⟩))
      | fail)
    all_goals
      go_wp2_with fail
      go_ret
      exact ⟨ret_bool rfl, hbw3.trans (hb4.mono hbw3.size)⟩
  · have hnI : (10000 : Int) < (n : Int) := by omega
    go_enter Try.func6, Try.ntmps6
    go_wp2_with (first
      | (go_at_call 12; refine (works_any _).mono ?_; rintro e w1 ⟨rfl, hb1⟩))
    go_ret
    exact ⟨ret_bool rfl, hb1⟩
end Go.Proofs.Ytiheldbiaamabaa
