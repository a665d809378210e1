/- The walk of the law DequeBounds. No condition. -/
import Derived.Test.YtlglelgnpkdnbaaDqM
import Derived.Deep.RegionWith
import Derived.Deep.DeepMust
namespace Go.Proofs.Ytlglelgnpkdnbaa
open Go.RowKit
set_option linter.unusedVariables false

set_option maxHeartbeats 8000000 in
set_option maxRecDepth 100000 in
theorem dequeBounds_any (w : World) : Calls Try.prog 8 #[] w fun e w' => e = .returned (.bool true) ∧ Below w.heap.size w w' := by
  obtain ⟨L, P, h1, h2, h4, h6⟩ := bounds_rows
  obtain ⟨l, h11, h12⟩ := bounds_bytes
  have H1 := hide h1
  have H2 := hide h2
  have H4 := hide h4
  have H6 := hide h6
  have H11 := hide h11
  have H12 := hide h12
  clear h1 h2 h4 h6 h11
  generalize hS1 : (⟨l.toArray⟩ : ByteArray) = S1 at *
  have HS1 := hide hS1
  have HS2 := hide (cut_size h12)
  have T1 := hide True.intro
  have T2 := hide True.intro
  have T3 := hide True.intro
  have T4 := hide True.intro
  have hpl : placeOk 0 0 = false := by decide
  have HPL := hide hpl
  clear h12 hS1 hpl
  go_enter Try.func8, Try.ntmps8
  go_wp2_with (first
    | (refine wpList_make (by rfl) (.const (.int .i64 65537)) (.const (.int .i64 65537)) 29 (by rfl) str_ok rfl Try.underlying29 (n := 65537) (c := 65537) (by rfl) (by rfl) (Nat.le_refl _) (by decide) (by decide) ?_
       intro w1 hb1 hs1 hk1 ho1
       have ho1 := ho1 w.heap.size (Nat.le_refl _)
       rw [H1.out] at ho1
       clear hk1 hs1 H1)
    | (refine wpList_make (by rfl) (.const (.int .i64 1048577)) (.const (.int .i64 1048577)) 49 (by rfl) u8_ok rfl Try.underlying49 (n := 1048577) (c := 1048577) (by rfl) (by rfl) (Nat.le_refl _) (by decide) (by decide) ?_
       intro w2 hb2 hs2 hk2 ho2
       have ho2 := ho2 w1.heap.size (Nat.le_refl _)
       rw [H11.out] at ho2
       have hcv := run_bytes_str (P := Try.prog) 49 9 5 (by kernel_rfl) (by kernel_rfl) (by kernel_rfl) (Reads.of_own ho2) 1048577
       rw [HS1.out] at hcv
       have hsz := H12.out
       have hbw2 := hb1.trans (hb2.mono hb1.size)
       have ho1b := own_below ho1 hb2
       have hrP : Reads w2 w2.heap.size 1 (some ⟨w.heap.size, 0, none⟩) 65536 (svs P) := by
         rw [H2.out]
         exact (Reads.of_own ho1b).frontV (by decide)
       clear hk2 hs2 H11 ho2)
    | (go_at_call 15
       have _t := hrP
       go_must (
       refine (new_any _ 65536 65537 P w2 hrP (by decide) H6.out).mono ?_
       rintro e w3 ⟨g1, rfl, hD3, hb3⟩
       have hbw3 := hbw2.trans (hb3.mono hbw2.size)
       have hg1w : w2.heap.size ≤ w3.heap.size := hb3.size
       have hL4 := hb3.size
       clear hrP _t ho1b))
    | (go_at_call 15
       have _t := T1
       go_must (
       refine (new_no _ 65537 65537 w3 (fits_many 0 _ 65537 65537 w3 (by decide) (by decide))).mono ?_
       rintro e w3' ⟨rfl, rfl⟩
       clear T1 _t))
    | (go_at_call 27
       have _t := T2
       go_must (
       have hb4 : Below w3.heap.size w3 (w3.alloc (.cells #[.string (⟨#[111, 110, 101, 32, 109, 111, 114, 101]⟩ : ByteArray)] 9)) := (Below.refl _ w3).alloc (Nat.le_refl _) _
       generalize w3.alloc (.cells #[.string (⟨#[111, 110, 101, 32, 109, 111, 114, 101]⟩ : ByteArray)] 9) = w4 at *
       have hD4 := hD3.below hb4
       have hbw4 := hbw3.trans (hb4.mono hbw3.size)
       have hz4 : w2.heap.size ≤ w4.heap.size := Nat.le_trans hg1w hb4.size
       obtain ⟨A4, len4, cap4, first4, ring4, hx4⟩ := id hD4
       have hB4 := hx4.1
       rw [H4.out] at hB4
       refine (pushBack_no _ _ _ 1 1 w4 hB4 (fits_many 65536 _ 1 1 w4 (by decide) (by decide))).mono ?_
       rintro e w4' ⟨rfl, rfl⟩
       clear T2 _t hx4 hB4 hD3))
    | (go_at_call 20
       have _t := T3
       go_must (
       refine (pushFront_any (K := fun _ => False) none 0 0 [] w4 hD4.k hz4 (Reads.none_ _ _ _ _) (fun h => absurd h (Nat.not_lt_zero _)) (by rw [H4.out]; decide) (fun s hs => by cases hs)).mono ?_
       rintro e w5 ⟨rfl, hD5', hb5, _⟩
       have hD5 : DQ w2.heap.size w5 g1 P := hD5'.q
       have hbw5 := hbw4.trans (hb5.mono hbw2.size)
       clear T3 _t hD5' hD4 hz4))
    | (go_at_call 15
       have _t := HS2
       go_must (
       have hk6 : Blk (w5.alloc (.cells #[.string (S1.extract 0 1048576)] 9)) w5.heap.size 9 (svs [S1.extract 0 1048576]).toArray := Blk.new w5 _ _
       have hb6 : Below w5.heap.size w5 (w5.alloc (.cells #[.string (S1.extract 0 1048576)] 9)) := (Below.refl _ w5).alloc (Nat.le_refl _) _
       generalize w5.alloc (.cells #[.string (S1.extract 0 1048576)] 9) = w6 at *
       refine (new_any _ 1 1 [S1.extract 0 1048576] w6 (hk6.texts rfl) (by decide) (fun s hs => by rw [List.mem_singleton.1 hs, HS2.out]; decide)).mono ?_
       rintro e w7 ⟨g2, rfl, hE7, hb7⟩
       have hb57 := hb6.trans (hb7.mono hb6.size)
       have hD7 := hD5.below hb57
       have hbw7 := hbw5.trans (hb57.mono hbw5.size)
       clear HS2 _t hk6 hb6 hb7 hb57 hD5 hcv))
    | (go_at_call 20
       go_must (
       have hk8 : Blk (w7.alloc (.cells #[.string (⟨#[97]⟩ : ByteArray), .string S1] 9)) w7.heap.size 9 (svs [(⟨#[97]⟩ : ByteArray), S1]).toArray := Blk.new w7 _ _
       have hb8 : Below w7.heap.size w7 (w7.alloc (.cells #[.string (⟨#[97]⟩ : ByteArray), .string S1] 9)) := (Below.refl _ w7).alloc (Nat.le_refl _) _
       generalize w7.alloc (.cells #[.string (⟨#[97]⟩ : ByteArray), .string S1] 9) = w8 at *
       have hD8 := hD7.below hb8
       have hE8 := hE7.below hb8
       have hbw8 := hbw7.trans (hb8.mono hbw7.size)
       obtain ⟨A8, len8, cap8, first8, ring8, hx8⟩ := id hE8
       have hB8 := hx8.1
       refine (pushFront_no _ _ _ 2 2 w8 hB8 (fits_long 1 _ 2 2 [(⟨#[97]⟩ : ByteArray), S1] w8 (hk8.texts rfl) (by decide) ⟨S1, by simp, by rw [H12.out]; decide⟩)).mono ?_
       rintro e w8' ⟨rfl, rfl⟩
       clear hx8 hk8 hD7 hE7))
    | (go_at_call 26
       have _t := hB8
       go_must (
       refine (put_no _ _ _ 5 S1 w8 hB8 (by rw [H12.out]; decide)).mono ?_
       rintro e w8' ⟨rfl, rfl⟩
       clear hB8 _t))
    | (go_at_call 15
       go_must (
       have hk9 : Blk (w8.alloc (.cells #[.string S1] 9)) w8.heap.size 9 (svs [S1]).toArray := Blk.new w8 _ _
       have hb9 : Below w8.heap.size w8 (w8.alloc (.cells #[.string S1] 9)) := (Below.refl _ w8).alloc (Nat.le_refl _) _
       generalize w8.alloc (.cells #[.string S1] 9) = w9 at *
       have hD9 := hD8.below hb9
       have hE9 := hE8.below hb9
       have hbw9 := hbw8.trans (hb9.mono hbw8.size)
       refine (new_no _ 1 1 w9 (fits_long 0 _ 1 1 [S1] w9 (hk9.texts rfl) (by decide) ⟨S1, by simp, by rw [H12.out]; decide⟩)).mono ?_
       rintro e w9' ⟨rfl, rfl⟩
       clear hk9 hD8 hE8))
    | (go_at_call 27
       go_must (
       have hb10 : Below w9.heap.size w9 (w9.alloc (.cells #[.string (⟨#[97]⟩ : ByteArray)] 9)) := (Below.refl _ w9).alloc (Nat.le_refl _) _
       generalize w9.alloc (.cells #[.string (⟨#[97]⟩ : ByteArray)] 9) = w10 at *
       have hD10 := hD9.below hb10
       have hE10 := hE9.below hb10
       have hbw10 := hbw9.trans (hb10.mono hbw9.size)
       refine (pushBack_nil _ 1 1 w10).mono ?_
       rintro e w10' ⟨rfl, rfl⟩
       clear hD9 hE9))
    | (go_at_call 26; refine (put_nil 0 (⟨#[97]⟩ : ByteArray) w10).mono ?_; rintro e w10' ⟨rfl, rfl⟩)
    | (go_at_call 16; refine (popFront_nil w10).mono ?_; rintro e w10' ⟨rfl, rfl⟩)
    | (go_at_call 22; refine (at_nil 0 ⟨by decide, by decide⟩ HPL.out w10).mono ?_; rintro e w10' ⟨rfl, rfl⟩)
    | (go_at_call 28; refine (keep_nil _ _ w10).mono ?_; rintro e w10' ⟨rfl, rfl⟩)
    | (go_at_call 29
       go_must (
       refine (lawAll_nil w10).mono ?_
       rintro e w11 ⟨v11, rfl, ho11, hb11⟩
       have ho11' : w11.ownsRow w10.heap.size 9 1 v11 0 (svs []) := ho11
       clear ho11
       obtain ⟨A11, c11, rfl, _, _⟩ := own_slice ho11'
       have hbw11 := hbw10.trans (hb11.mono hbw10.size)
       obtain ⟨A12, len12, cap12, first12, ring12, hx12⟩ := hD10.below hb11
       obtain ⟨A13, len13, cap13, first13, ring13, hx13⟩ := hE10.below hb11
       have hBD := hx12.1
       rw [H4.out] at hBD
       have hBE : Blk w11 g2 57 (dcells A13 len13 cap13 first13 1) := hx13.1
       clear hx12 hx13 hD10 hE10))
    | (go_at_call 18; refine (num_any 0 _).mono ?_; rintro e w2' ⟨rfl, rfl⟩)
    | (go_at_call 18; refine (num_any 3 _).mono ?_; rintro e w2' ⟨rfl, rfl⟩)
    | (go_at_call 18; refine (num_any 1 _).mono ?_; rintro e w2' ⟨rfl, rfl⟩)
    | (go_at_call_of 21 (Value.pointer none); refine (len_nil w11).mono ?_; rintro e w2' ⟨rfl, rfl⟩)
    | (go_at_call_of 21 g1; refine (len_any g1 _ _ 65536 w11 hBD).mono ?_; rintro e w2' ⟨rfl, rfl⟩)
    | (go_at_call_of 21 g2; refine (len_any g2 _ _ 1 w11 hBE).mono ?_; rintro e w2' ⟨rfl, rfl⟩)
    | (go_at_call 30; go_must (refine (drop_nil ⟨#[]⟩ w11).mono ?_; rintro e w12 ⟨rfl, hb12⟩; have hbw12 := hbw11.trans (hb12.mono hbw11.size)))
    | (go_at_call 23; refine (range_nil w12).mono ?_; rintro e w2' ⟨rfl, rfl⟩)
    | (go_at_call 9; refine (works_any _).mono ?_; rintro e w16 ⟨rfl, hb16⟩)
    | fail)
  go_ret
  exact ⟨ret_bool rfl, hbw12.trans (hb16.mono hbw12.size)⟩
end Go.Proofs.Ytlglelgnpkdnbaa
