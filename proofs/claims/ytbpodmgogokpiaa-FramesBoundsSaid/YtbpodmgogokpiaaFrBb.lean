/- The walk of the law FramesBounds. No condition. -/
import Derived.Test.YtbpodmgogokpiaaFrBa
import Derived.Test.YtbpodmgogokpiaaFrN
namespace Go.Proofs.Ytbpodmgogokpiaa
open Go.RowKit
set_option linter.unusedVariables false

set_option maxHeartbeats 8000000 in
set_option maxRecDepth 100000 in
theorem framesBounds_any (w : World) : Calls Try.prog 6 #[] w fun e w' => e = .returned (.bool true) ∧ Below w.heap.size w w' := by
  obtain ⟨L, P, h1, h2, h3, h4, h5, h6, h7, h8, h9, h10⟩ := bounds_rows
  obtain ⟨l, h11, h12⟩ := bounds_bytes
  have H1 := hide h1
  have H2 := hide h2
  have H3 := hide h3
  have H4 := hide h4
  have H7 := hide h7
  have H8 := hide h8
  have H9 := hide h9
  have H10 := hide h10
  have H11 := hide h11
  have H12 := hide h12
  have H13 := hide bounds_no
  clear h1 h2 h3 h4 h7 h8 h9 h10 h11
  generalize hS1 : (⟨l.toArray⟩ : ByteArray) = S1 at *
  have HS1 := hide hS1
  have HS2 := hide (cut_size h12)
  have HF2 := hide (bounds_fit (cut_size h12))
  have HF1 := hide (bounds_over h12)
  clear h12 hS1
  go_enter Try.func6, Try.ntmps6
  go_wp2_with (first
    | (refine wpList_make rfl (.const (.int .i64 65537)) (.const (.int .i64 65537)) 22 rfl str_ok rfl Try.underlying22 (n := 65537) (c := 65537) rfl rfl (Nat.le_refl _) (by decide) (by decide) ?_
       intro w1 hb1 hs1 hk1 ho1
       have ho1 := ho1 w.heap.size (Nat.le_refl _)
       rw [H1.out] at ho1
       have hrP : Reads w1 w1.heap.size 1 (some ⟨w.heap.size, 0, none⟩) 65536 (svs P) := by
         rw [H2.out]
         exact (Reads.of_own ho1).frontV (by decide)
       clear hk1 hs1 H1 H2)
    | (go_at_call 12
       have _t := hrP
       go_must (
       refine (put_any _ 65536 65537 P w1 hrP h6 H8.out).mono ?_
       rintro e w2 ⟨v2, rfl, ho2, hb2⟩
       rw [H9.out] at ho2
       obtain ⟨A2, c2, rfl, hc21, hc22⟩ := own_slice ho2
       have hbw2 := hb1.trans (hb2.mono hb1.size)
       have ho1b := own_below ho1 hb2
       clear hrP H8 _t))
    | (go_at_call 12
       have _t := ho1b
       go_must (
       refine (put_long _ 65537 65537 L w2 (Reads.of_own ho1b) h5 H7.out).mono ?_
       rintro e w3 ⟨rfl, hb3⟩
       have hbw3 := hbw2.trans (hb3.mono hbw2.size)
       have ho1c := own_below ho1b hb3
       have ho2c := own_below ho2 hb3
       clear ho1b _t))
    | (refine wpList_make rfl (.const (.int .i64 1048569)) (.const (.int .i64 1048569)) 25 rfl u8_ok rfl Try.underlying25 (n := 1048569) (c := 1048569) rfl rfl (Nat.le_refl _) (by decide) (by decide) ?_
       intro w4 hb4 hs4 hk4 ho4
       have ho4 := ho4 w3.heap.size (Nat.le_refl _)
       rw [H11.out] at ho4
       have hcv := run_bytes_str (P := Try.prog) 25 9 5 (by kernel_rfl) (by kernel_rfl) (by kernel_rfl) (Reads.of_own ho4) 1048569
       rw [HS1.out] at hcv
       have hsz := H12.out
       have hbw4 := hbw3.trans (hb4.mono hbw3.size)
       have ho1d := own_below ho1c hb4
       have ho2d := own_below ho2c hb4
       clear hk4 hs4 H11 ho4 ho1c ho2c)
    | (go_at_call 12
       have _t := HS2
       go_must (
       have hk5 : Blk (w4.alloc (.cells #[.string (S1.extract 0 1048568)] 9)) w4.heap.size 9 (svs [S1.extract 0 1048568]).toArray := Blk.new w4 _ _
       have hb5 : Below w4.heap.size w4 (w4.alloc (.cells #[.string (S1.extract 0 1048568)] 9)) := (Below.refl _ w4).alloc (Nat.le_refl _) _
       generalize w4.alloc (.cells #[.string (S1.extract 0 1048568)] 9) = w5 at *
       refine (put_any _ 1 1 [S1.extract 0 1048568] w5 (hk5.texts rfl) (small_one _ (by rw [HS2.out]; decide)) HF2.out.1).mono ?_
       rintro e w6 ⟨v6, rfl, ho6, hb6⟩
       rw [HF2.out.2.1] at ho6
       obtain ⟨A6, c6, rfl, hc61, hc62⟩ := own_slice ho6
       have hb56 : Below w4.heap.size w4 w6 := hb5.trans (hb6.mono hb5.size)
       have ho1e := own_below ho1d hb56
       have ho2e := own_below ho2d hb56
       have hbw6 := hbw4.trans (hb56.mono hbw4.size)
       clear HS2 _t hk5 ho1d ho2d hcv hb5 hb6 hb56))
    | (go_at_call 12
       have _t := HF1
       go_must (
       have hk7 : Blk (w6.alloc (.cells #[.string S1] 9)) w6.heap.size 9 (svs [S1]).toArray := Blk.new w6 _ _
       have hb7 : Below w6.heap.size w6 (w6.alloc (.cells #[.string S1] 9)) := (Below.refl _ w6).alloc (Nat.le_refl _) _
       generalize w6.alloc (.cells #[.string S1] 9) = w7 at *
       refine (put_long _ 1 1 [S1] w7 (hk7.texts rfl) (small_one _ (by rw [H12.out]; decide)) HF1.out).mono ?_
       rintro e w8 ⟨rfl, hb8⟩
       have hb78 : Below w6.heap.size w6 w8 := hb7.trans (hb8.mono hb7.size)
       have ho1f := own_below ho1e hb78
       have ho2f := own_below ho2e hb78
       have ho6f := own_below ho6 hb78
       have hbw8 := hbw6.trans (hb78.mono hbw6.size)
       have HF1' := hide HF1
       clear HF1 _t hk7 ho1e ho2e ho6 hb7 hb8 hb78))
    | (go_at_call 17
       have _t := ho6f
       go_must (
       refine (read_yes A6 1048584 c6 1048584 [S1.extract 0 1048568] (frameF [S1.extract 0 1048568]) w8 (Reads.of_own ho6f) hc61 hc62 (by decide) HF2.out.2.2).mono ?_
       rintro e w9 ⟨v9, rfl, ho9, hb9⟩
       have ho9' : w9.ownsRow w8.heap.size 9 1 v9 1 (svs [S1.extract 0 1048568]) := ho9
       clear ho9
       obtain ⟨A9, c9, rfl, hc91, hc92⟩ := own_slice ho9'
       have ho1g := own_below ho1f hb9
       have ho2g := own_below ho2f hb9
       have hbw9 := hbw8.trans (hb9.mono hbw8.size)
       clear ho6f _t ho1f ho2f hb9))
    | (go_at_call 17
       have _t := ho2g
       go_must (
       refine (read_yes A2 262156 c2 262156 P (frameF P) w9 (Reads.of_own ho2g) hc21 hc22 (by decide) H10.out).mono ?_
       rintro e w10 ⟨v10, rfl, ho10, hb10⟩
       rw [H4.out] at ho10
       obtain ⟨A10, c10, rfl, hc101, hc102⟩ := own_slice ho10
       have ho1h := own_below ho1g hb10
       have hbw10 := hbw9.trans (hb10.mono hbw9.size)
       clear ho2g _t ho1g hb10))
    | (go_at_call 17
       have _t := H13
       go_must (
       have hr11 : Reads (w10.alloc (.cells #[.int .u8 1, .int .u8 0, .int .u8 16, .int .u8 0, .int .u8 0, .int .u8 0, .int .u8 0, .int .u8 0, .int .u8 0] 5)) (w10.alloc (.cells #[.int .u8 1, .int .u8 0, .int .u8 16, .int .u8 0, .int .u8 0, .int .u8 0, .int .u8 0, .int .u8 0, .int .u8 0] 5)).heap.size 1 (some ⟨w10.heap.size, 0, none⟩) 9 (bvs [1, 0, 16, 0, 0, 0, 0, 0, 0]) := (Reads.const w10 [1, 0, 16, 0, 0, 0, 0, 0, 0] 5 (0, 0)).more (by simp)
       have hb11 : Below w10.heap.size w10 (w10.alloc (.cells #[.int .u8 1, .int .u8 0, .int .u8 16, .int .u8 0, .int .u8 0, .int .u8 0, .int .u8 0, .int .u8 0, .int .u8 0] 5)) := (Below.refl _ w10).alloc (Nat.le_refl _) _
       generalize w10.alloc (.cells #[.int .u8 1, .int .u8 0, .int .u8 16, .int .u8 0, .int .u8 0, .int .u8 0, .int .u8 0, .int .u8 0, .int .u8 0] 5) = w11 at *
       refine (read_no _ 9 9 121 [1, 0, 16, 0, 0, 0, 0, 0, 0] w11 hr11 (by decide) (by decide) (by decide) H13.out).mono ?_
       rintro e w12 ⟨rfl, hb12⟩
       have hb1112 : Below w10.heap.size w10 w12 := hb11.trans (hb12.mono hb11.size)
       have ho1i := own_below ho1h hb1112
       have hbw12 := hbw10.trans (hb1112.mono hbw10.size)
       clear H13 _t ho1h hr11 hb11 hb12 hb1112))
    | (go_at_call 14; refine (num_any 0 _).mono ?_; rintro e w2' ⟨rfl, rfl⟩)
    | (go_at_call 14; refine (num_any 3 _).mono ?_; rintro e w2' ⟨rfl, rfl⟩)
    | (go_at_call 14; refine (num_any 121 _).mono ?_; rintro e w2' ⟨rfl, rfl⟩)
    | (go_at_call 15
       have _t := ho1i
       go_must (
       refine (size_any _ 65537 65537 L w12 (Reads.of_own ho1i) h5).mono ?_
       rintro e w13 ⟨rfl, hb13⟩
       rw [H7.out]
       have hbw13 := hbw12.trans (hb13.mono hbw12.size)
       clear ho1i _t H7 hb13))
    | (go_at_call 15
       go_must (
       have hk14 : Blk (w13.alloc (.cells #[.string S1] 9)) w13.heap.size 9 (svs [S1]).toArray := Blk.new w13 _ _
       have hb14 : Below w13.heap.size w13 (w13.alloc (.cells #[.string S1] 9)) := (Below.refl _ w13).alloc (Nat.le_refl _) _
       generalize w13.alloc (.cells #[.string S1] 9) = w14 at *
       refine (size_any _ 1 1 [S1] w14 (hk14.texts rfl) (small_one _ (by rw [H12.out]; decide))).mono ?_
       rintro e w15 ⟨rfl, hb15⟩
       rw [HF1'.out.out]
       have hbw15 := (hbw13.trans (hb14.mono hbw13.size)).trans (hb15.mono (Nat.le_trans hbw13.size hb14.size))))
    | (go_at_call 11; refine (works_any _).mono ?_; rintro e w16 ⟨rfl, hb16⟩)
    | fail)
  go_ret
  exact ⟨rfl, hbw15.trans (hb16.mono hbw15.size)⟩
end Go.Proofs.Ytbpodmgogokpiaa
