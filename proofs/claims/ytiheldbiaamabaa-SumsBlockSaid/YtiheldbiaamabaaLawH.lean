/- The walk of the law SumsBlock: it returns true at every input. -/
import Derived.Test.YtiheldbiaamabaaRefC
import Derived.Test.YtiheldbiaamabaaEq5
import Derived.Test.YtiheldbiaamabaaWorks
import Derived.Test.YtiheldbiaamabaaLawE
namespace Go.Proofs.Ytiheldbiaamabaa
open Go.RowKit
set_option linter.unusedVariables false
attribute [local go_sem ↓] Go.wp_at_zero Go.wp_at_succ

set_option maxHeartbeats 4000000 in
theorem sumsBlock_any (s : St) (hs : s.fits) (A : Option Addr) (n c : Nat) (l : List UInt8) (w : World) (hr : Reads w w.heap.size 1 A n (bvs l)) (hc : n ≤ c) (hcm : c ≤ maxLen) :
    Calls Try.prog 7 #[.agg #[.int .u32 s.a, .int .u32 s.b, .int .u32 s.c, .int .u32 s.d, .int .u32 s.e], .slice A n c] w fun e w' => e = .returned (.bool true) ∧ Below w.heap.size w w' := by
  by_cases hn : n ≤ 10000
  · have hm : n ≤ maxLen := by omega
    have hnI : ¬ (10000 : Int) < (n : Int) := by omega
    have heq5 : ∀ (a b c d e : Int) (w : World), (Op.equalIn 10000 36 (.agg #[.int .u32 a, .int .u32 b, .int .u32 c, .int .u32 d, .int .u32 e]) (.agg #[.int .u32 a, .int .u32 b, .int .u32 c, .int .u32 d, .int .u32 e])).run Try.prog w = .ok true w := eq5 9998
    have hl := hide hr.blen
    go_enter Try.func7, Try.ntmps7
    go_wp2_with (first
      | (go_at_call 13
         go_must (
         have hB0 := Blk.new w 36 #[.int .u32 s.a, .int .u32 s.b, .int .u32 s.c, .int .u32 s.d, .int .u32 s.e]
         have hb0 : Below w.heap.size w (w.alloc (.cells #[.int .u32 s.a, .int .u32 s.b, .int .u32 s.c, .int .u32 s.d, .int .u32 s.e] 36)) := (Below.refl _ w).alloc (Nat.le_refl _) _
         have hr0 := (hr.below hb0).more hb0.size
         have hlt0 : w.heap.size < (w.alloc (.cells #[.int .u32 s.a, .int .u32 s.b, .int .u32 s.c, .int .u32 s.d, .int .u32 s.e] 36)).heap.size := by simp
         generalize w.alloc (.cells #[.int .u32 s.a, .int .u32 s.b, .int .u32 s.c, .int .u32 s.d, .int .u32 s.e] 36) = W0 at *
         refine (lent_any A n c l W0 hr0 (by omega)).mono ?_
         rintro e w1 ⟨g, c1, rfl, hc1, hc2, hg1, hg2, hm1, hb1⟩
         have hr1 := (hr0.below hb1).more hb1.size
         have hB1 := hB0.below hb1 hlt0
         have hbw1 := hb0.trans (hb1.mono hb0.size)
         obtain ⟨q0, q1, q2, q3, q4⟩ := blk5 hB1))
      | fail)
    have hmf : Reads w1 w1.heap.size 1 (some ⟨g, 0, none⟩) n (bvs l) := by
      have := hm1.front (m := n) (by omega)
      rwa [List.take_append_of_le_length (by rw [hl.out]; omega), List.take_of_length_le (by rw [hl.out]; omega)] at this
    obtain ⟨r, err, hrc, hrs⟩ : ∃ (r : St) (err : Int), (Calls Try.prog 26 #[.agg #[.int .u32 s.a, .int .u32 s.b, .int .u32 s.c, .int .u32 s.d, .int .u32 s.e], .slice (some ⟨g, 0, none⟩) n c1] w1 fun e w' => e = .returned (.tuple #[.agg #[.int .u32 r.a, .int .u32 r.b, .int .u32 r.c, .int .u32 r.d, .int .u32 r.e], .int .i64 err]) ∧ Below w1.heap.size w1 w') ∧
        ((n = 64 ∧ r = blockOf s l ∧ err = 0) ∨ (n ≠ 64 ∧ r = ⟨0, 0, 0, 0, 0⟩ ∧ err = 2)) := by
      by_cases h64 : n = 64
      · subst h64
        exact ⟨blockOf s l, 0, block_any s hs _ c1 l w1 hmf (by omega) (by omega), .inl ⟨rfl, rfl, rfl⟩⟩
      · exact ⟨⟨0, 0, 0, 0, 0⟩, 2, block_bad s _ n c1 w1 h64 hm, .inr ⟨h64, rfl, rfl⟩⟩
    have HRS := hide hrs
    clear hrs
    go_wp2_with (first
      | (go_at_call 26
         go_must (
         refine hrc.mono ?_
         rintro e w2 ⟨rfl, hb2⟩
         have hB2 := hB1.below hb2 hB1.lt
         have hbw2 := hbw1.trans (hb2.mono hbw1.size)
         have hr2 := (hr1.below hb2).more hb2.size
         have hm2 := (hm1.below hb2)
         clear q0 q1 q2 q3 q4))
      | fail)
    have hB3 := hB2.alloc (.cells #[.int .u32 r.a, .int .u32 r.b, .int .u32 r.c, .int .u32 r.d, .int .u32 r.e] 36)
    have hN3 := Blk.new w2 36 #[.int .u32 r.a, .int .u32 r.b, .int .u32 r.c, .int .u32 r.d, .int .u32 r.e]
    have hb3 : Below w2.heap.size w2 (w2.alloc (.cells #[.int .u32 r.a, .int .u32 r.b, .int .u32 r.c, .int .u32 r.d, .int .u32 r.e] 36)) := (Below.refl _ w2).alloc (Nat.le_refl _) _
    generalize w2.alloc (.cells #[.int .u32 r.a, .int .u32 r.b, .int .u32 r.c, .int .u32 r.d, .int .u32 r.e] 36) = W3 at *
    have hr3 := (hr2.below hb3).more hb3.size
    have hm3 := hm2.below' hb3 hb2.size
    have hbw3 := hbw2.trans (hb3.mono hbw2.size)
    generalize w2.heap.size = gN at *
    obtain ⟨q0, q1, q2, q3, q4⟩ := blk5 hB3
    have hss : start.cells = #[.int .u32 1732584193, .int .u32 4023233417, .int .u32 2562383102, .int .u32 271733878, .int .u32 3285377520] := rfl
    have HSS := hide hss
    clear hss
    generalize hT : (⟨(textOf s).toArray⟩ : ByteArray) = T
    have HT := hide hT
    clear hT
    go_region_held3 (fun w' => w'.cell? ⟨w.heap.size, 0, none⟩ = some (.int .u32 s.a) ∧ w'.cell? ⟨w.heap.size, 1, none⟩ = some (.int .u32 s.b) ∧ w'.cell? ⟨w.heap.size, 2, none⟩ = some (.int .u32 s.c) ∧ w'.cell? ⟨w.heap.size, 3, none⟩ = some (.int .u32 s.d) ∧ w'.cell? ⟨w.heap.size, 4, none⟩ = some (.int .u32 s.e)) (go_keep)
      (first
        | (go_at_call 27
           go_must (
           refine (start_any W3.drew).mono ?_
           rintro e w4 ⟨rfl, hb4⟩
           rw [HSS.out]
           replace hb4 : Below W3.heap.size W3 w4 := undrew hb4
           have hB4 := hB3.below hb4 hB3.lt
           have hN4 := hN3.below hb4 hN3.lt
           have hr4 := (hr3.below hb4).more hb4.size
           have hm4 := hm3.below' hb4 (Nat.le_trans hb2.size hb3.size)
           have hbw4 := hbw3.trans (hb4.mono hbw3.size)
           obtain ⟨q0, q1, q2, q3, q4⟩ := blk5 hB4))
        | (go_at_call 28
           go_must (
           refine (rstart_any w4).mono ?_
           rintro e w5 ⟨rfl, hb5⟩
           rw [HSS.out]
           have hB5 := hB4.below hb5 hB4.lt
           have hN5 := hN4.below hb5 hN4.lt
           have hr5 := (hr4.below hb5).more hb5.size
           have hm5 := hm4.below' hb5 (Nat.le_trans (Nat.le_trans hb2.size hb3.size) hb4.size)
           have hbw5 := hbw4.trans (hb5.mono hbw4.size)
           obtain ⟨q0, q1, q2, q3, q4⟩ := blk5 hB5))
        | (go_at_call 29
           go_must (
           refine (text_any s hs w5).mono ?_
           rintro e w6 ⟨rfl, hb6⟩
           rw [HT.out]
           have hB6 := hB5.below hb6 hB5.lt
           have hN6 := hN5.below hb6 hN5.lt
           have hr6 := (hr5.below hb6).more hb6.size
           have hm6 := hm5.below' hb6 (Nat.le_trans (Nat.le_trans (Nat.le_trans hb2.size hb3.size) hb4.size) hb5.size)
           have hbw6 := hbw5.trans (hb6.mono hbw5.size)
           obtain ⟨q0, q1, q2, q3, q4⟩ := blk5 hB6))
        | (go_at_call 30
           go_must (
           refine (rtext_any s hs w6).mono ?_
           rintro e w7 ⟨rfl, hb7⟩
           rw [HT.out]
           have hB7 := hB6.below hb7 hB6.lt
           have hN7 := hN6.below hb7 hN6.lt
           have hr7 := (hr6.below hb7).more hb7.size
           have hm7 := hm6.below' hb7 (Nat.le_trans (Nat.le_trans (Nat.le_trans (Nat.le_trans hb2.size hb3.size) hb4.size) hb5.size) hb6.size)
           have hbw7 := hbw6.trans (hb7.mono hbw6.size)
           obtain ⟨q0, q1, q2, q3, q4⟩ := blk5 hB7))
        | (go_at_call 16
           go_must (
           refine (kept_any g n c1 A c l w7 hm7 hc1 hc2 hr7).mono ?_
           rintro e w7' ⟨rfl, rfl⟩)))
    clear q0 q1 q2 q3 q4
    have hc7 := blk5 hN7
    obtain ⟨p0, p1, p2, p3, p4⟩ := hc7
    rcases HRS.out with ⟨h64, hrr, her⟩ | ⟨h64, hrr, her⟩
    · subst h64 her
      have hd64 : ((((64 : Nat) : Int)) != 64) = false := by decide
      obtain ⟨q0, q1, q2, q3, q4⟩ := blk5 hB7
      have HRR := hide hrr
      clear hrr
      go_wp2_with fail
      go_region_held3? (fun w' => (w'.cell? ⟨w.heap.size, 0, none⟩ = some (.int .u32 s.a) ∧ w'.cell? ⟨w.heap.size, 1, none⟩ = some (.int .u32 s.b) ∧ w'.cell? ⟨w.heap.size, 2, none⟩ = some (.int .u32 s.c) ∧ w'.cell? ⟨w.heap.size, 3, none⟩ = some (.int .u32 s.d) ∧ w'.cell? ⟨w.heap.size, 4, none⟩ = some (.int .u32 s.e)) ∧
          (w'.cell? ⟨gN, 0, none⟩ = some (.int .u32 r.a) ∧ w'.cell? ⟨gN, 1, none⟩ = some (.int .u32 r.b) ∧ w'.cell? ⟨gN, 2, none⟩ = some (.int .u32 r.c) ∧ w'.cell? ⟨gN, 3, none⟩ = some (.int .u32 r.d) ∧ w'.cell? ⟨gN, 4, none⟩ = some (.int .u32 r.e))) (go_keep)
        (first
          | (go_at_call 31
             go_must (
             refine (rblock_any s hs A c l w7.drew hr7 (by omega) (by omega)).mono ?_
             rintro e w8 ⟨rfl, hb8⟩
             rw [← HRR.out]
             replace hb8 : Below w7.heap.size w7 w8 := undrew hb8
             have hB8 := hB7.below hb8 hB7.lt
             have hN8 := hN7.below hb8 hN7.lt
             have hbw8 := hbw7.trans (hb8.mono hbw7.size)
             have hrc : r.cells = #[.int .u32 r.a, .int .u32 r.b, .int .u32 r.c, .int .u32 r.d, .int .u32 r.e] := rfl
             rw [hrc]
             obtain ⟨q0, q1, q2, q3, q4⟩ := blk5 hB8
             obtain ⟨p0, p1, p2, p3, p4⟩ := blk5 hN8))
          | (go_at_call 20
             go_must (
             refine (num_any 0 _).mono ?_
             rintro e w8' ⟨rfl, rfl⟩))
          | (go_at_call 12
             go_must (
             refine (works_any w8).mono ?_
             rintro e w9 ⟨rfl, hb9⟩
             have hB9 := hB8.below hb9 hB8.lt
             have hN9 := hN8.below hb9 hN8.lt
             have hbw9 := hbw8.trans (hb9.mono hbw8.size)
             obtain ⟨q0, q1, q2, q3, q4⟩ := blk5 hB9
             obtain ⟨p0, p1, p2, p3, p4⟩ := blk5 hN9)))
      go_wp2_with fail
      go_ret
      exact ⟨ret_bool rfl, hbw9⟩
    · subst hrr her
      have hd64 : (((n : Int)) != 64) = true := by simp; omega
      go_wp2_with (first
        | (go_at_call 20
           go_must (
           refine (num_any 2 _).mono ?_
           rintro e w8' ⟨rfl, rfl⟩))
        | (go_at_call 12
           go_must (
           refine (works_any w7).mono ?_
           rintro e w9 ⟨rfl, hb9⟩))
        | fail)
      go_ret
      exact ⟨ret_bool rfl, hbw7.trans (hb9.mono hbw7.size)⟩
  · have hnI : (10000 : Int) < (n : Int) := by omega
    go_enter Try.func7, Try.ntmps7
    go_wp2_with (first
      | (go_at_call 12; refine (works_any _).mono ?_; rintro e w1 ⟨rfl, hb1⟩))
    go_ret
    exact ⟨ret_bool rfl, ((Below.refl _ w).alloc (Nat.le_refl _) _).trans (hb1.mono (by simp))⟩
end Go.Proofs.Ytiheldbiaamabaa
