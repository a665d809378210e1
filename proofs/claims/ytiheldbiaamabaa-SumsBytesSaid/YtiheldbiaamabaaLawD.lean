/- The walk of the law SumsBytes: it returns true at every input. -/
import Derived.Test.YtiheldbiaamabaaWorks
import Derived.Test.YtiheldbiaamabaaSumsB
namespace Go.Proofs.Ytiheldbiaamabaa
open Go.RowKit
set_option linter.unusedVariables false

theorem undrewD {B : Nat} {w w' : World} (h : Below B w.drew w') : Below B w w' := ⟨h.os, h.tape, h.output, h.size, h.block⟩
theorem le4_reads {w : World} {g t : Nat} (s : Nat) (h : Blk w g t (bvs (le4 s)).toArray) : Reads w (g + 1) 1 (some ⟨g, 0, none⟩) 4 (bvs (le4 s)) := by
  have := h.reads (n := g + 1) (k := 0) (m := 4) (by omega) (by simp [bvs_length, le4])
  rw [List.drop_zero] at this
  simpa [List.take_of_length_le, bvs_length, le4] using this

set_option maxHeartbeats 1000000 in
theorem sumsBytes_any (s : Nat) (hs : s < 4294967296) (A : Option Addr) (n c : Nat) (l : List UInt8) (w : World) (hr : Reads w w.heap.size 1 A n (bvs l)) (hm : n ≤ maxLen) :
    Calls Try.prog 5 #[.int .u32 s, .slice A n c] w fun e w' => e = .returned (.bool true) ∧ Below w.heap.size w w' := by
  by_cases hn : n = 4
  · subst hn
    have hd4 : ((((4 : Nat) : Int)) != 4) = false := by decide
    have hro := (rof_any A 4 c l w.drew (B := w.heap.size) hr (by decide) hm)
    have Hro := hide hro
    clear hro
    go_enter Try.func5, Try.ntmps5
    go_wp2_with (first
      | (go_at_call 19; refine (of_any A c l w hr).mono ?_; rintro e w1 ⟨rfl, rfl⟩))
    generalize of4 l = q at *
    go_region_with (first
      | (go_at_call 23
         go_loud (
         refine Hro.out.mono ?_
         rintro e w1 ⟨rfl, ⟨m1, rfl⟩⟩
         generalize hW1 : w.drew.drewN m1 = W1
         have hbw1 : Below w.heap.size w W1 := by rw [← hW1]; exact undrewD (below_drewN (Below.refl _ _) m1)))
      | (go_at_call 20
         go_loud (
         refine (num_any 0 _).mono ?_; rintro e w2 ⟨rfl, rfl⟩))
      | (go_at_call 21
         go_loud (
         refine (bytes_any s hs W1).mono ?_
         rintro e w2 ⟨g2, rfl, hg2, hk2, hb2⟩
         have hbw2 := hbw1.trans (hb2.mono hbw1.size)
         have hrd2 := le4_reads s hk2
         have hcv2 := run_bytes_str (P := Try.prog) 22 9 5 Try.underlying22 Try.underlying5 Try.underlying9 hrd2 4
         generalize hS : (⟨(le4 s).toArray⟩ : ByteArray) = S at hcv2
         have HS := hide hS
         clear hS))
      | (go_at_call 22
         go_loud (
         refine (rbytes_any s hs w2).mono ?_
         rintro e w3 ⟨g3, rfl, hg3, hk3, hb3⟩
         have hbw3 := hbw2.trans (hb3.mono hbw2.size)
         have hrd3 := le4_reads s hk3
         have hcv2' := run_bytes_str (P := Try.prog) 22 9 5 Try.underlying22 Try.underlying5 Try.underlying9 (le4_reads s (hk2.below hb3 hk2.lt)) 4
         have hcv3 := run_bytes_str (P := Try.prog) 22 9 5 Try.underlying22 Try.underlying5 Try.underlying9 hrd3 4
         rw [HS.out] at hcv3 hcv2'))
      | (go_at_call 12
         go_loud (
         refine (works_any w3).mono ?_
         rintro e w4 ⟨rfl, hb4⟩))
      | fail)
    all_goals
      go_wp2_with fail
      go_ret
      exact ⟨ret_bool rfl, hbw3.trans (hb4.mono hbw3.size)⟩
  · have hn4 : ((n : Int) != 4) = true := by simp; omega
    go_enter Try.func5, Try.ntmps5
    go_wp2_with (first
      | (go_at_call 19; refine (of_bad A n c w hn hm).mono ?_; rintro e w1 ⟨rfl, rfl⟩))
    go_region_with (first
      | (go_at_call 20
         go_loud (
         refine (num_any 2 _).mono ?_; rintro e w2 ⟨rfl, rfl⟩))
      | (go_at_call 21
         go_loud (
         refine (bytes_any s hs w.drew).mono ?_
         rintro e w2 ⟨g2, rfl, hg2, hk2, hb2⟩
         have hbw2 : Below w.heap.size w w2 := undrewD hb2
         have hrd2 := le4_reads s hk2
         have hcv2 := run_bytes_str (P := Try.prog) 22 9 5 Try.underlying22 Try.underlying5 Try.underlying9 hrd2 4
         generalize hS : (⟨(le4 s).toArray⟩ : ByteArray) = S at hcv2
         have HS := hide hS
         clear hS))
      | (go_at_call 22
         go_loud (
         refine (rbytes_any s hs w2).mono ?_
         rintro e w3 ⟨g3, rfl, hg3, hk3, hb3⟩
         have hbw3 := hbw2.trans (hb3.mono hbw2.size)
         have hrd3 := le4_reads s hk3
         have hcv2' := run_bytes_str (P := Try.prog) 22 9 5 Try.underlying22 Try.underlying5 Try.underlying9 (le4_reads s (hk2.below hb3 hk2.lt)) 4
         have hcv3 := run_bytes_str (P := Try.prog) 22 9 5 Try.underlying22 Try.underlying5 Try.underlying9 hrd3 4
         rw [HS.out] at hcv3 hcv2'))
      | (go_at_call 12
         go_loud (
         refine (works_any w3).mono ?_
         rintro e w4 ⟨rfl, hb4⟩))
      | fail)
    all_goals
      go_wp2_with fail
      go_ret
      exact ⟨ret_bool rfl, hbw3.trans (hb4.mono hbw3.size)⟩
end Go.Proofs.Ytiheldbiaamabaa
