/- The walk of works (package taborlaw03). Conditions: those of each theorem. -/
import Derived.Test.YtbpodmgogokpiaaFrM
namespace Go.Proofs.Ytbpodmgogokpiaa
open Go.RowKit
set_option linter.unusedVariables false

theorem Reads.const (w : World) (l : List UInt8) (t : TypeId) (fr : Nat × Nat) : Reads (w.alloc (.cells (bvs l).toArray t fr)) (w.heap.size + 1) 1 (some ⟨w.heap.size, 0, none⟩) l.length (bvs l) :=
  ⟨by simp [bvs_length], fun hn => ⟨w.heap.size, 0, rfl, by omega, fun j u hu => by
    rw [World.cell?_alloc_mark]
    simpa using hu⟩⟩

set_option maxHeartbeats 8000000 in
theorem works_any (w : World) : Calls Try.prog 11 #[] w fun e w' => e = .returned (.bool true) ∧ Below w.heap.size w w' := by
  have K1 := hide known_a
  have K2 := hide known_b
  have K3 := hide known_scan1
  have K4 := hide known_scan2
  have K5 := hide known_read
  have K6 := hide known_sizeA
  have K7 := hide known_sizeB
  have hsA := small_one sA (by decide)
  have hsBC := small_two sB sC (by decide) (by decide)
  go_enter Try.func11, Try.ntmps11
  go_wp2_with (first
    | (go_at_call 12
       have _t := hsA
       go_must (
       have hk0 : Blk (w.alloc (.cells #[.string ⟨#[97]⟩] 9)) w.heap.size 9 (svs [sA]).toArray := Blk.new w _ _
       have hb0 : Below w.heap.size w (w.alloc (.cells #[.string ⟨#[97]⟩] 9)) := (Below.refl _ w).alloc (Nat.le_refl _) _
       generalize w.alloc (.cells #[.string ⟨#[97]⟩] 9) = w0 at *
       refine (put_any _ 1 1 [sA] w0 (hk0.texts rfl) hsA (by rw [K6.out]; decide)).mono ?_
       rintro e w1 ⟨v1, rfl, ho1, hb1⟩
       rw [K1.out] at ho1
       obtain ⟨A1, c1, rfl, hc11, hc12⟩ := own_slice ho1
       have hbw1 := hb0.trans (hb1.mono hb0.size)
       clear hsA _t hk0))
    | (go_at_call 12
       go_must (
       have hk1 : Blk (w1.alloc (.cells #[.string ⟨#[98]⟩, .string ⟨#[99]⟩] 9)) w1.heap.size 9 (svs [sB, sC]).toArray := Blk.new w1 _ _
       have hb2 : Below w1.heap.size w1 (w1.alloc (.cells #[.string ⟨#[98]⟩, .string ⟨#[99]⟩] 9)) := (Below.refl _ w1).alloc (Nat.le_refl _) _
       have ho1a := own_below ho1 hb2
       generalize w1.alloc (.cells #[.string ⟨#[98]⟩, .string ⟨#[99]⟩] 9) = w2 at *
       refine (put_any _ 2 2 [sB, sC] w2 (hk1.texts rfl) hsBC K7.out).mono ?_
       rintro e w3 ⟨v3, rfl, ho3, hb3⟩
       rw [K2.out] at ho3
       obtain ⟨A3, c3, rfl, hc31, hc32⟩ := own_slice ho3
       have ho1b := own_below ho1a hb3
       have hbw3 := (hbw1.trans (hb2.mono hbw1.size)).trans (hb3.mono (Nat.le_trans hbw1.size hb2.size))
       have hr1 := (Reads.of_own ho1b).alloc (Nat.le_refl _) (.cells #[] 5)
       have hr3 := Reads.of_own ho3
       have hown4 : (w3.alloc (.cells #[] 5)).ownsRow w3.heap.size 5 1 (.slice (some ⟨w3.heap.size, 0, none⟩) 0 0) 0 [] := World.ownsRow_made w3 #[] 0 (Nat.le_refl _) (by decide) rfl
       have hb3a : Below w3.heap.size w3 (w3.alloc (.cells #[] 5)) := (Below.refl _ w3).alloc (Nat.le_refl _) _
       clear hsBC hk1))
    | (refine wpList_append (o := ⟨some 23, _, _, _, _, _⟩) rfl (.tmp 21) (.tmp 22) 25 rfl u8_ok Try.underlying25 hown4 rfl hr1 rfl (bvs_one _) (by decide) (by decide) (by simp) ?_
       intro v5 w5 hown5 hb5 _ _
       rw [Nat.zero_add, List.nil_append] at hown5
       have hb35 := hb3a.trans hb5
       have hr35 := hr3.below hb35)
    | (refine wpList_append (o := ⟨some 25, _, _, _, _, _⟩) rfl (.tmp 23) (.tmp 24) 25 rfl u8_ok Try.underlying25 hown5 rfl hr35 rfl (bvs_one _) (by decide) (by decide) hb35.size ?_
       intro v6 w6 hown6 hb6 _ _
       rw [← bvs_append] at hown6
       have hb36 := hb35.trans hb6
       have hr9 := Reads.const w6 [9, 0, 0] 5 (0, 0)
       have hb6a : Below w3.heap.size w3 (w6.alloc (.cells #[.int .u8 9, .int .u8 0, .int .u8 0] 5)) := hb36.alloc hb36.size _)
    | (refine wpList_append (o := ⟨some 27, _, _, _, _, _⟩) rfl (.tmp 25) (.tmp 26) 25 rfl u8_ok Try.underlying25 (hown6.alloc _) rfl hr9 rfl (bvs_one _) (by decide) (by decide) hb6a.size ?_
       intro v7 w7 hown7 hb7 _ _
       rw [← bvs_append] at hown7
       have hb37 := hb6a.trans hb7
       obtain ⟨A7, c7, rfl, hc71, hc72⟩ := own_slice hown7
       have hbw7 := hbw3.trans (hb37.mono hbw3.size)
       have ho1c := own_below ho1b hb37)
    | (go_at_call 19
       go_must (
       refine (scan_any A7 _ c7 _ w7 (Reads.of_own hown7) hc71 hc72 (by decide)).mono ?_
       rintro e w8 ⟨v8, ps, rfl, hps, hlo8, hb8⟩
       rw [K3.out] at hps
       rw [K4.out]
       obtain ⟨p, q, rfl, hp, hq⟩ := parts_two hps
       have hlo81 : w8.ownsRow w7.heap.size 22 1 v8 2 (lvs [p, q]) := hlo8.1
       have hq8 := hlo8.2 q (by simp)
       clear hlo8 hps
       obtain ⟨A8, c8, rfl, hc81, hc82⟩ := own_slice hlo81
       have ho1d := own_below ho1c hb8
       have hbw8 := hbw7.trans (hb8.mono hbw7.size)))
    | (go_at_call 17
       go_must (
       refine (read_yes A1 17 c1 17 [sA] (frameF [sA]) w8 (Reads.of_own ho1d) hc11 hc12 (by decide) K5.out).mono ?_
       rintro e w9 ⟨v9, rfl, ho9, hb9⟩
       have ho9' : w9.ownsRow w8.heap.size 9 1 v9 1 (svs [sA]) := ho9
       clear ho9
       obtain ⟨A9, c9, rfl, hc91, hc92⟩ := own_slice ho9'
       have hlo9 := own_below hlo81 hb9
       have hbw9 := hbw8.trans (hb9.mono hbw8.size)
       have hq9 : w9.ownsRow w7.heap.size 9 1 (.slice q.A q.n q.c) q.n (svs q.l) := own_below hq8 hb9
       rw [hq] at hq9
       have hqn : q.n = 2 := by have := (Reads.of_own hq9).slen; simpa using this.symm
       rw [hqn] at hq9
       obtain ⟨bq, oq, uq, eq1, _, huq, hcq⟩ := (Reads.of_own hlo9).at_ (k := 1) (by decide)
       have hqv : uq = .slice q.A 2 q.c := by rw [← hqn]; simpa [lvs] using huq.symm
       subst hqv eq1
       clear huq hqn hq hp
       have hkX : Blk (w9.alloc (.cells #[.string ⟨#[98]⟩, .string ⟨#[99]⟩] 9)) w9.heap.size 9 (svs [sB, sC]).toArray := Blk.new w9 _ _
       have hq9a := Reads.of_own (hq9.alloc (.cells #[.string ⟨#[98]⟩, .string ⟨#[99]⟩] 9))
       have hb9a := hbw9.alloc hbw9.size (.cells #[.string ⟨#[98]⟩, .string ⟨#[99]⟩] 9)
       have ho9a := ho9'.alloc (.cells #[.string ⟨#[98]⟩, .string ⟨#[99]⟩] 9)))
    | (go_at_call 16
       have _t := hkX
       go_must (
       generalize w9.alloc (.cells #[.string ⟨#[98]⟩, .string ⟨#[99]⟩] 9) = w10 at *
       refine (rone_any q.A 2 q.c _ 2 2 [sB, sC] [sB, sC] w10 hq9a (hkX.texts rfl) (by decide)).mono ?_
       rintro e w11 ⟨rfl, m11, hw11⟩
       rw [show decide (([sB, sC] : List ByteArray) = [sB, sC]) = true from by simp]
       have hb11 : Below w.heap.size w w11 := by rw [hw11]; exact below_drewN hb9a _
       have ho11 := own_below ho9a (w' := w11) (by rw [hw11]; exact below_drewN (Below.refl _ _) _)
       have hkY : Blk (w11.alloc (.cells #[.string ⟨#[97]⟩] 9)) w11.heap.size 9 (svs [sA]).toArray := Blk.new w11 _ _
       have ho11a := Reads.of_own (ho11.alloc (.cells #[.string ⟨#[97]⟩] 9))
       have hb11a := hb11.alloc hb11.size (.cells #[.string ⟨#[97]⟩] 9)
       clear hw11 hkX _t))
    | (go_at_call 16
       go_must (
       generalize w11.alloc (.cells #[.string ⟨#[97]⟩] 9) = w12 at *
       refine (rone_any A9 1 c9 _ 1 1 [sA] [sA] w12 ho11a (hkY.texts rfl) (by decide)).mono ?_
       rintro e w13 ⟨rfl, m13, hw13⟩
       rw [show decide (([sA] : List ByteArray) = [sA]) = true from by simp]
       have hb13 : Below w.heap.size w w13 := by rw [hw13]; exact below_drewN hb11a _
       have hkZ : Blk (w13.alloc (.cells #[.string ⟨#[97]⟩] 9)) w13.heap.size 9 (svs [sA]).toArray := Blk.new w13 _ _
       have hb13a := hb13.alloc hb13.size (.cells #[.string ⟨#[97]⟩] 9)
       clear hw13))
    | (go_at_call 15
       go_must (
       generalize w13.alloc (.cells #[.string ⟨#[97]⟩] 9) = w14 at *
       refine (size_any _ 1 1 [sA] w14 (hkZ.texts rfl) (small_one sA (by decide))).mono ?_
       rintro e w15 ⟨rfl, hb15⟩
       rw [K6.out]
       have hbw15 := hb13a.trans (hb15.mono hb13a.size)))
    | (go_at_call 14; refine (num_any 0 _).mono ?_; rintro e w2' ⟨rfl, rfl⟩)
    | fail)
  go_ret
  exact ⟨ret_bool rfl, hbw15⟩
end Go.Proofs.Ytbpodmgogokpiaa
