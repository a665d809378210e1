/- The walk of the law SumsParts: it returns true at every input. -/
import Derived.Test.YtiheldbiaamabaaLawE
import Derived.Deep.RegionHeld3
import Derived.Deep.DrawnRows
namespace Go.Proofs.Ytiheldbiaamabaa
open Go.RowKit
set_option linter.unusedVariables false
attribute [local go_sem ↓] Go.wp_at_zero Go.wp_at_succ

theorem padded_mod64 (l : List UInt8) : ((padded l).length : Int) % 64 = 0 := by have := padded_mod l; omega

set_option maxHeartbeats 8000000 in
theorem sumsParts_any (A : Option Addr) (n c : Nat) (l : List UInt8) (cut : Int) (w : World) (hr : Reads w w.heap.size 1 A n (bvs l)) (hc : n ≤ c) (hm : c ≤ maxLen) (hwf : (Lit.int .i64 cut).wf = true) :
    Calls Try.prog 10 #[.slice A n c, .int .i64 cut] w fun e w' => e = .returned (.bool true) ∧ Below w.heap.size w w' := by
  by_cases hn : n ≤ 3000
  · have hnI : ¬ (3000 : Int) < (n : Int) := by omega
    by_cases hk0 : cut < 0
    · go_enter Try.func10, Try.ntmps10
      go_wp2_with (first
        | (go_at_call 12; refine (works_any _).mono ?_; rintro e w1 ⟨rfl, hb1⟩))
      go_ret
      exact ⟨ret_bool rfl, hb1⟩
    · by_cases hkn : (n : Int) < cut
      · go_enter Try.func10, Try.ntmps10
        go_wp2_with (first
          | (go_at_call 12; refine (works_any _).mono ?_; rintro e w1 ⟨rfl, hb1⟩))
        go_ret
        exact ⟨ret_bool rfl, hb1⟩
      · obtain ⟨k, rfl⟩ : ∃ k : Nat, cut = (k : Int) := ⟨cut.toNat, by omega⟩
        have hkn' : k ≤ n := by omega
        have hkI : (0 : Int) ≤ (k : Int) := by omega
        have hkc : (k : Int) ≤ (n : Int) := by omega
        have hl := hide hr.blen
        have hpos := padded_pos l
        have hmod := padded_mod64 l
        have hplen := hide (padded_length l)
        have hpm := hide (padded_mod l)
        have hz : zerosOf l.length < 64 := Nat.mod_lt _ (by decide)
        go_enter Try.func10, Try.ntmps10
        go_wp2_with (first
          | (go_at_call 24
             go_loud (
             refine (pad_any A n c l w hr (by omega)).mono ?_
             rintro e w1 ⟨v1, rfl, hown1, hb1⟩
             obtain ⟨g1, cap1, rfl, hcap1, hcm1, hg1, hgl1, hrd1⟩ := own_reads hown1 hpos
             have hr1 := (hr.below hb1).more hb1.size
             generalize hN : (padded l).length = N at *
             have HN := hide hN
             clear hN))
          | (go_at_call 27
             go_loud (
             refine (start_any w1).mono ?_
             rintro e w2 ⟨rfl, hb2⟩
             have hr2 := (hr1.below hb2).more hb2.size
             have hrd2 := (hrd1.below hb2).more hb2.size
             have hbw2 := hb1.trans (hb2.mono hb1.size)
             have hs5 : start.cells = #[.int .u32 start.a, .int .u32 start.b, .int .u32 start.c, .int .u32 start.d, .int .u32 start.e] := rfl
             rw [hs5]
             clear hs5))
          | fail)
        have hst : Blk (w2.alloc (.cells #[.int .u32 start.a, .int .u32 start.b, .int .u32 start.c, .int .u32 start.d, .int .u32 start.e] 36)) w2.heap.size 36 start.cells := Blk.new w2 _ _
        have hb3 : Below w2.heap.size w2 (w2.alloc (.cells #[.int .u32 start.a, .int .u32 start.b, .int .u32 start.c, .int .u32 start.d, .int .u32 start.e] 36)) := (Below.refl _ w2).alloc (Nat.le_refl _) _
        have hz3 : w2.heap.size < (w2.alloc (.cells #[.int .u32 start.a, .int .u32 start.b, .int .u32 start.c, .int .u32 start.d, .int .u32 start.e] 36)).heap.size := by simp
        generalize w2.alloc (.cells #[.int .u32 start.a, .int .u32 start.b, .int .u32 start.c, .int .u32 start.d, .int .u32 start.e] 36) = W0 at *
        rw [hl.out] at hz
        replace hplen := hplen.out
        rw [hl.out] at hplen
        have hrA := (hr2.below hb3).more hb3.size
        have hrP := (hrd2.below hb3).more hb3.size
        have hbw3 := hbw2.trans (hb3.mono hbw2.size)
        have hcP := run_bytes_str (P := Try.prog) 22 9 5 Try.underlying22 Try.underlying5 Try.underlying9 (hrP.front (m := n) (by omega)).drew cap1
        have hcA := run_bytes_str (P := Try.prog) 22 9 5 Try.underlying22 Try.underlying5 Try.underlying9 hrA.drew c
        have hfr : (padded l).take n = l := by
          have := padded_front l
          rwa [hl.out] at this
        rw [hfr] at hcP
        generalize (⟨l.toArray⟩ : ByteArray) = S at hcP hcA
        have hN9 : decide ((N : Int) < (n : Int) + 9) = false := by simp; omega
        have hmod' : ((N : Int).tmod 64 != 0) = false := by rw [Int.tmod_eq_emod_of_nonneg (by omega), hmod]; rfl
        have hmod'' : (((N : Int) % 64) != 0) = false := by rw [hmod]; rfl
        have hw9 : IntKind.i64.wrap ((n : Int) + 9) = (n : Int) + 9 := by rw [IntKind.wrap_i64]; omega
        have hnI0 : (0 : Int) ≤ (n : Int) := by omega
        have hnc : (n : Int) ≤ (cap1 : Int) := by omega
        have HPL := hide hplen
        clear hplen hfr hr1 hrd1
        go_region_held3 (fun w' => (convert 22 9 (.slice (some ⟨g1, 0, none⟩) n cap1)).run Try.prog w' = .ok (.string S) w' ∧ (convert 22 9 (.slice A n c)).run Try.prog w' = .ok (.string S) w') (first | go_keep | exact ⟨hcP, hcA⟩) (fail)
        all_goals go_wp2_with fail
        clear hcP hcA hN9 hmod' hmod'' hw9 hrA hrP
        go_loopw [7, 8, 9] (fun i x8 x9 wr => ∃ (j P : Nat) (st : St), Hid (P = 64 * j) ∧ i = .int .i64 (P : Int) ∧ P ≤ N ∧ st.fits ∧ Blk wr w2.heap.size 36 st.cells ∧ (chunks (N / 64 - j) ((padded l).drop P)).foldl blockOf st = digSt l ∧ Below w2.heap.size w2 wr)
          (fun i _ _ _ => N - (intOf i).toNat)
        case atStart => exact ⟨0, 0, start, hide rfl, rfl, by omega, start_fits, hst, by rw [List.drop_zero, Nat.sub_zero, ← HN.out]; rfl, ⟨hb3.os, hb3.tape, hb3.output, hb3.size, hb3.block⟩⟩
        case round =>
          obtain ⟨j, P, st, hPj, rfl, hj, hfit, hB, hfold, hbr⟩ := hrel
          by_cases hjN : P < N
          · have hjI : (P : Int) < (N : Int) := by omega
            have hj64 : P + 64 ≤ N := by have := hpm.out; have := hPj.out; omega
            have hjI0 : (0 : Int) ≤ (P : Int) := by omega
            have hjI1 : (P : Int) ≤ (P : Int) + 64 := by omega
            have hjI2 : (P : Int) + 64 ≤ (cap1 : Int) := by omega
            have hjw : IntKind.i64.wrap ((P : Int) + 64) = (P : Int) + 64 := by rw [IntKind.wrap_i64]; unfold maxLen at hcm1; omega
            have hrb := (((hrd2.below hbr).more hbr.size).cut (k := P) (m := 64) (cap := cap1) (by omega) hcap1)
            rw [if_neg (by omega), bvs_drop, bvs_take] at hrb
            have hKj : N / 64 - j = (N / 64 - (j + 1)) + 1 := by have := hPj.out; omega
            rw [hKj] at hfold
            simp only [chunks, List.foldl_cons, List.drop_drop] at hfold
            have hfit' : (blockOf st ((padded l).drop P |>.take 64)).fits := addSt_fits _ _
            generalize ((padded l).drop P |>.take 64) = bl at *
            generalize hst' : blockOf st bl = st' at *
            have hB0 := hB
            have hlt := hB0.lt
            unfold St.cells at hB
            obtain ⟨q0, q1, q2, q3, q4⟩ := blk5 hB
            replace hrb : Reads wr wr.heap.size 1 (some ⟨g1, P, none⟩) 64 (bvs bl) := by rw [Option.map_some, add_lit, Nat.zero_add] at hrb; exact hrb
            have hcp : ¬ cap1 = P := by omega
            have htn : ((P : Int) + 64).toNat - P = 64 := by omega
            have e0 := World.new_ne wr _ q0
            have e1 := World.new_ne wr _ q1
            have e2 := World.new_ne wr _ q2
            have e3 := World.new_ne wr _ q3
            have e4 := World.new_ne wr _ q4
            go_wp2_with fail
            go_region_held3 (fun w' => w'.cell? ⟨w2.heap.size, 0, none⟩ = some (.int .u32 st.a) ∧ w'.cell? ⟨w2.heap.size, 1, none⟩ = some (.int .u32 st.b) ∧ w'.cell? ⟨w2.heap.size, 2, none⟩ = some (.int .u32 st.c) ∧ w'.cell? ⟨w2.heap.size, 3, none⟩ = some (.int .u32 st.d) ∧ w'.cell? ⟨w2.heap.size, 4, none⟩ = some (.int .u32 st.e)) (go_keep)
              (first
                | (go_at_call 26
                   refine (block_any st hfit (some ⟨g1, P, none⟩) (cap1 - P) bl wr.drew hrb (by omega) (by omega)).mono ?_
                   rintro e w3 ⟨rfl, hb4⟩
                   rw [hst']
                   replace hb4 : Below wr.heap.size wr w3 := undrew hb4
                   have hB4 := hB.below hb4 hlt
                   obtain ⟨r0, r1, r2, r3, r4⟩ := blk5 hB4
                   have f0 := World.new_ne w3 _ r0
                   have f1 := World.new_ne w3 _ r1
                   have f2 := World.new_ne w3 _ r2
                   have f3 := World.new_ne w3 _ r3
                   have f4 := World.new_ne w3 _ r4
                   have hc' : st'.cells = #[.int .u32 st'.a, .int .u32 st'.b, .int .u32 st'.c, .int .u32 st'.d, .int .u32 st'.e] := rfl
                   rw [hc'])
                | (go_at_call 26
                   go_loud (
                   refine (block_any st hfit (some ⟨g1, P, none⟩) (cap1 - P) bl (wr.alloc (.cells #[.int .u32 0, .int .u32 0, .int .u32 0, .int .u32 0, .int .u32 0] 36)).drew ((hrb.alloc (Nat.le_refl _) _).more (by simp)) (by omega) (by omega)).mono ?_
                   rintro e w3 ⟨rfl, hb4⟩
                   rw [hst']
                   replace hb4 : Below (wr.alloc (.cells #[.int .u32 0, .int .u32 0, .int .u32 0, .int .u32 0, .int .u32 0] 36)).heap.size (wr.alloc (.cells #[.int .u32 0, .int .u32 0, .int .u32 0, .int .u32 0, .int .u32 0] 36)) w3 := undrew hb4
                   have hB4 := (hB.alloc (.cells #[.int .u32 0, .int .u32 0, .int .u32 0, .int .u32 0, .int .u32 0] 36)).below hb4 (by simp; omega)
                   have hN4 := (Blk.new wr 36 #[.int .u32 0, .int .u32 0, .int .u32 0, .int .u32 0, .int .u32 0]).below hb4 (by simp)
                   obtain ⟨r0, r1, r2, r3, r4⟩ := blk5 hB4
                   obtain ⟨m0, m1, m2, m3, m4⟩ := blk5 hN4
                   have v0 := hN4.frozen 0
                   have v1 := hN4.frozen 1
                   have v2 := hN4.frozen 2
                   have v3 := hN4.frozen 3
                   have v4 := hN4.frozen 4
                   have hc' : st'.cells = #[.int .u32 st'.a, .int .u32 st'.b, .int .u32 st'.c, .int .u32 st'.d, .int .u32 st'.e] := rfl
                   rw [hc'])))
            · have hBS := hB4.alloc (.cells #[.int .u32 st'.a, .int .u32 st'.b, .int .u32 st'.c, .int .u32 st'.d, .int .u32 st'.e] 36)
              have hNw := Blk.new w3 36 #[.int .u32 st'.a, .int .u32 st'.b, .int .u32 st'.c, .int .u32 st'.d, .int .u32 st'.e]
              have hbW : Below w2.heap.size w2 (w3.alloc (.cells #[.int .u32 st'.a, .int .u32 st'.b, .int .u32 st'.c, .int .u32 st'.d, .int .u32 st'.e] 36)) := (hbr.trans (hb4.mono hbr.size)).alloc (by have := hbr.size; have := hb4.size; omega) _
              generalize hgn : w3.heap.size = gn at *
              generalize w3.alloc (.cells #[.int .u32 st'.a, .int .u32 st'.b, .int .u32 st'.c, .int .u32 st'.d, .int .u32 st'.e] 36) = W at *
              clear q0 q1 q2 q3 q4 r0 r1 r2 r3 r4 hB hB4
              obtain ⟨t0, t1, t2, t3, t4⟩ := blk5 hBS
              obtain ⟨m0, m1, m2, m3, m4⟩ := blk5 hNw
              have z0 := hBS.frozen 0
              have z1 := hBS.frozen 1
              have z2 := hBS.frozen 2
              have z3 := hBS.frozen 3
              have z4 := hBS.frozen 4
              go_wp2_with (first
                | (go_at_call 20; refine (num_any 0 _).mono ?_; rintro e w5 ⟨rfl, rfl⟩)
                | fail)
              go_roundw
              case rel =>
                refine ⟨j + 1, P + 64, st', hide (by have := hPj.out; omega), by simp, hj64, hfit', ?_, hfold, ?_⟩
                · exact ((((hBS.set_ 0 _).set_ 1 _).set_ 2 _).set_ 3 _).set_ 4 _
                · exact ((((hbW.setCell (Nat.le_refl _) _).setCell (Nat.le_refl _) _).setCell (Nat.le_refl _) _).setCell (Nat.le_refl _) _).setCell (Nat.le_refl _) _
              case measure => simp [intOf]; omega
            · have hBS := ((((hB4.far (p := ⟨wr.heap.size, 0, none⟩) (by simpa using Ne.symm e0) (.int .u32 st'.a)).far (p := ⟨wr.heap.size, 1, none⟩) (by simpa using Ne.symm e0) (.int .u32 st'.b)).far (p := ⟨wr.heap.size, 2, none⟩) (by simpa using Ne.symm e0) (.int .u32 st'.c)).far (p := ⟨wr.heap.size, 3, none⟩) (by simpa using Ne.symm e0) (.int .u32 st'.d)).far (p := ⟨wr.heap.size, 4, none⟩) (by simpa using Ne.symm e0) (.int .u32 st'.e)
              have hNw : Blk _ wr.heap.size 36 #[.int .u32 st'.a, .int .u32 st'.b, .int .u32 st'.c, .int .u32 st'.d, .int .u32 st'.e] := ((((hN4.set_ 0 (.int .u32 st'.a)).set_ 1 (.int .u32 st'.b)).set_ 2 (.int .u32 st'.c)).set_ 3 (.int .u32 st'.d)).set_ 4 (.int .u32 st'.e)
              have hbr' : Below w2.heap.size w2 w3 := (hbr.alloc hbr.size (.cells #[.int .u32 0, .int .u32 0, .int .u32 0, .int .u32 0, .int .u32 0] 36)).trans (hb4.mono (by have := hbr.size; simp; omega))
              have hbW : Below w2.heap.size w2 _ := ((((hbr'.setCell (p := ⟨wr.heap.size, 0, none⟩) hbr.size (.int .u32 st'.a)).setCell (p := ⟨wr.heap.size, 1, none⟩) hbr.size (.int .u32 st'.b)).setCell (p := ⟨wr.heap.size, 2, none⟩) hbr.size (.int .u32 st'.c)).setCell (p := ⟨wr.heap.size, 3, none⟩) hbr.size (.int .u32 st'.d)).setCell (p := ⟨wr.heap.size, 4, none⟩) hbr.size (.int .u32 st'.e)
              generalize (((((w3.setCell ⟨wr.heap.size, 0, none⟩ (.int .u32 st'.a)).setCell ⟨wr.heap.size, 1, none⟩ (.int .u32 st'.b)).setCell ⟨wr.heap.size, 2, none⟩ (.int .u32 st'.c)).setCell ⟨wr.heap.size, 3, none⟩ (.int .u32 st'.d)).setCell ⟨wr.heap.size, 4, none⟩ (.int .u32 st'.e)) = W at *
              generalize hgn : wr.heap.size = gn at *
              clear q0 q1 q2 q3 q4 r0 r1 r2 r3 r4 m0 m1 m2 m3 m4 v0 v1 v2 v3 v4 hB hB4 hN4
              obtain ⟨t0, t1, t2, t3, t4⟩ := blk5 hBS
              obtain ⟨m0, m1, m2, m3, m4⟩ := blk5 hNw
              have z0 := hBS.frozen 0
              have z1 := hBS.frozen 1
              have z2 := hBS.frozen 2
              have z3 := hBS.frozen 3
              have z4 := hBS.frozen 4
              go_wp2_with (first
                | (go_at_call 20; refine (num_any 0 _).mono ?_; rintro e w5 ⟨rfl, rfl⟩)
                | fail)
              go_roundw
              case rel =>
                refine ⟨j + 1, P + 64, st', hide (by have := hPj.out; omega), by simp, hj64, hfit', ?_, hfold, ?_⟩
                · exact ((((hBS.set_ 0 _).set_ 1 _).set_ 2 _).set_ 3 _).set_ 4 _
                · exact ((((hbW.setCell (Nat.le_refl _) _).setCell (Nat.le_refl _) _).setCell (Nat.le_refl _) _).setCell (Nat.le_refl _) _).setCell (Nat.le_refl _) _
              case measure => simp [intOf]; omega
          · have hjI : ¬ (P : Int) < (N : Int) := by omega
            have hKj : N / 64 - j = 0 := by have := hPj.out; have := hpm.out; omega
            rw [hKj] at hfold
            have HF : Hid (st = digSt l) := hfold
            clear hfold hKj
            have hrA := (hr2.below hbr).more hbr.size
            have hbwr := hbw2.trans (hbr.mono hbw2.size)
            have hrC := hr.cut (k := k) (m := n - k) (by omega) hc
            rw [bvs_drop, bvs_take, List.take_of_length_le (by rw [List.length_drop, hl.out]; omega)] at hrC
            have hncI : (n : Int) ≤ (c : Int) := by omega
            rcases A with _ | ⟨b, o, sp⟩
            · rw [show (if c = k then none else Option.map (fun x : Addr => x.add k) none) = (none : Option Addr) by split <;> rfl] at hrC
              go_wp2_with (first
                | (go_at_call 32
                   go_loud (
                   refine (digest_any _ n c l wr hrA (by omega)).mono ?_
                   rintro e w4 ⟨rfl, hb4⟩
                   rw [← HF.out]
                   have hrA4 := (hrA.below hb4).more hb4.size
                   have hbw4 := hbwr.trans (hb4.mono hbwr.size)
                   have hB4 := hB.below hb4 hB.lt
                   have htxt := hide (show isDig (textOf st) = true from text_dig st)
                   have hts : (⟨(textOf st).toArray⟩ : ByteArray).size = 40 := by simp [ByteArray.size, textOf]
                   generalize hT : (⟨(textOf st).toArray⟩ : ByteArray) = T at *
                   have HT := hide hT
                   have hdg : isDig T.data.toList = true := by rw [← hT]; exact text_dig st
                   clear hT))
                | fail)
              unfold St.cells at hB4
              obtain ⟨q0, q1, q2, q3, q4⟩ := blk5 hB4
              have hcells : st.cells = #[.int .u32 st.a, .int .u32 st.b, .int .u32 st.c, .int .u32 st.d, .int .u32 st.e] := rfl
              have hkc' : (k : Int) ≤ (c : Int) := by omega
              have hrF := hrA4.front (m := k) (by omega)
              have hcp := hide (crc_parts (l.take k) (l.drop k))
              rw [List.take_append_drop] at hcp
              have hq : crcUpd 0 (l.take k) < 4294967296 := by rw [crcUpd_ref]; exact Nat.xor_lt_two_pow (n := 32) (refRun_lt _ _ (by decide)) (by decide)
              generalize hqe : crcUpd 0 (l.take k) = q at *
              have HQ := hide hqe
              clear hqe
              clear hcells
              go_region_held3 (fun w' => w'.cell? ⟨w2.heap.size, 0, none⟩ = some (.int .u32 st.a) ∧ w'.cell? ⟨w2.heap.size, 1, none⟩ = some (.int .u32 st.b) ∧ w'.cell? ⟨w2.heap.size, 2, none⟩ = some (.int .u32 st.c) ∧ w'.cell? ⟨w2.heap.size, 3, none⟩ = some (.int .u32 st.d) ∧ w'.cell? ⟨w2.heap.size, 4, none⟩ = some (.int .u32 st.e)) (go_keep)
                (first
                  | (go_at_call 29
                     go_must (
                     refine (text_any st hfit w4.drew).mono ?_
                     rintro e w5 ⟨rfl, hb5⟩
                     rw [HT.out]
                     replace hb5 : Below w4.heap.size w4 w5 := undrew hb5
                     have hB5 := hB4.below hb5 hB4.lt
                     obtain ⟨r0, r1, r2, r3, r4⟩ := blk5 hB5
                     have hrA5 := (hrA4.below hb5).more hb5.size
                     have hbw5 := hbw4.trans (hb5.mono hbw4.size)))
                  | (go_at_call 34
                     go_must (
                     refine (is_any T w5 (by rw [hts]; decide)).mono ?_
                     rintro e w6 ⟨rfl, hb6⟩
                     rw [hdg]
                     have hB6 := hB5.below hb6 hB5.lt
                     obtain ⟨s0, s1, s2, s3, s4⟩ := blk5 hB6
                     have hrA6 := (hrA5.below hb6).more hb6.size
                     have hrF6 := hrA6.front (m := k) hkn'
                     have hbw6 := hbw5.trans (hb6.mono hbw5.size)))
                  | (go_at_call_of 14 (Value.slice none k c)
                     go_must (
                     refine (crc_any _ k c (l.take k) w6 hrF6 (by omega)).mono ?_
                     rintro e w7 ⟨rfl, hb7⟩
                     rw [HQ.out]
                     have hB7 := hB6.below hb7 hB6.lt
                     obtain ⟨x0, x1, x2, x3, x4⟩ := blk5 hB7
                     have hrA7 := (hrA6.below hb7).more hb7.size
                     have hbw7 := hbw6.trans (hb7.mono hbw6.size)))
                  | (go_at_call 17
                     go_must (
                     refine (update_any q hq _ (n - k) (c - k) (l.drop k) w7 ((hrC.below hbw7).more hbw7.size) (by omega)).mono ?_
                     rintro e w8 ⟨rfl, hb8⟩
                     rw [hcp.out]
                     have hB8 := hB7.below hb8 hB7.lt
                     obtain ⟨y0, y1, y2, y3, y4⟩ := blk5 hB8
                     have hrA8 := (hrA7.below hb8).more hb8.size
                     have hbw8 := hbw7.trans (hb8.mono hbw7.size)))
                  | (go_at_call_of 14 (Value.slice none n c)
                     go_must (
                     refine (crc_any _ n c l w8 hrA8 (by omega)).mono ?_
                     rintro e w9 ⟨rfl, hb9⟩
                     have hB9 := hB8.below hb9 hB8.lt
                     obtain ⟨z0, z1, z2, z3, z4⟩ := blk5 hB9
                     have hbw9 := hbw8.trans (hb9.mono hbw8.size)))
                  | (go_at_call 12
                     go_must (
                     refine (works_any w9).mono ?_
                     rintro e w10 ⟨rfl, hb10⟩
                     have hBa := hB9.below hb10 hB9.lt
                     obtain ⟨a0, a1, a2, a3, a4⟩ := blk5 hBa
                     have hbwa := hbw9.trans (hb10.mono hbw9.size))))
              all_goals
                go_wp2_with fail
                go_ret
                exact ⟨ret_bool rfl, hbwa⟩
            · by_cases hck : c = k
              · rw [if_pos hck] at hrC
                obtain rfl : k = n := by omega
                obtain rfl : c = k := hck
                rw [Nat.sub_self] at hrC
                go_wp2_with (first
                  | (go_at_call 32
                     go_loud (
                     refine (digest_any _ c c l wr hrA (by omega)).mono ?_
                     rintro e w4 ⟨rfl, hb4⟩
                     rw [← HF.out]
                     have hrA4 := (hrA.below hb4).more hb4.size
                     have hbw4 := hbwr.trans (hb4.mono hbwr.size)
                     have hB4 := hB.below hb4 hB.lt
                     have htxt := hide (show isDig (textOf st) = true from text_dig st)
                     have hts : (⟨(textOf st).toArray⟩ : ByteArray).size = 40 := by simp [ByteArray.size, textOf]
                     generalize hT : (⟨(textOf st).toArray⟩ : ByteArray) = T at *
                     have HT := hide hT
                     have hdg : isDig T.data.toList = true := by rw [← hT]; exact text_dig st
                     clear hT))
                  | fail)
                unfold St.cells at hB4
                obtain ⟨q0, q1, q2, q3, q4⟩ := blk5 hB4
                have hcells : st.cells = #[.int .u32 st.a, .int .u32 st.b, .int .u32 st.c, .int .u32 st.d, .int .u32 st.e] := rfl
                have hkc' : (c : Int) ≤ (c : Int) := by omega
                have hrF := hrA4.front (m := c) (by omega)
                have hcp := hide (crc_parts (l.take c) (l.drop c))
                rw [List.take_append_drop] at hcp
                have hq : crcUpd 0 (l.take c) < 4294967296 := by rw [crcUpd_ref]; exact Nat.xor_lt_two_pow (n := 32) (refRun_lt _ _ (by decide)) (by decide)
                generalize hqe : crcUpd 0 (l.take c) = q at *
                have HQ := hide hqe
                clear hqe
                clear hcells
                go_region_held3 (fun w' => w'.cell? ⟨w2.heap.size, 0, none⟩ = some (.int .u32 st.a) ∧ w'.cell? ⟨w2.heap.size, 1, none⟩ = some (.int .u32 st.b) ∧ w'.cell? ⟨w2.heap.size, 2, none⟩ = some (.int .u32 st.c) ∧ w'.cell? ⟨w2.heap.size, 3, none⟩ = some (.int .u32 st.d) ∧ w'.cell? ⟨w2.heap.size, 4, none⟩ = some (.int .u32 st.e)) (go_keep)
                  (first
                    | (go_at_call 29
                       go_must (
                       refine (text_any st hfit w4.drew).mono ?_
                       rintro e w5 ⟨rfl, hb5⟩
                       rw [HT.out]
                       replace hb5 : Below w4.heap.size w4 w5 := undrew hb5
                       have hB5 := hB4.below hb5 hB4.lt
                       obtain ⟨r0, r1, r2, r3, r4⟩ := blk5 hB5
                       have hrA5 := (hrA4.below hb5).more hb5.size
                       have hbw5 := hbw4.trans (hb5.mono hbw4.size)))
                    | (go_at_call 34
                       go_must (
                       refine (is_any T w5 (by rw [hts]; decide)).mono ?_
                       rintro e w6 ⟨rfl, hb6⟩
                       rw [hdg]
                       have hB6 := hB5.below hb6 hB5.lt
                       obtain ⟨s0, s1, s2, s3, s4⟩ := blk5 hB6
                       have hrA6 := (hrA5.below hb6).more hb6.size
                       have hrF6 := hrA6.front (m := c) hkn'
                       have hbw6 := hbw5.trans (hb6.mono hbw5.size)))
                    | (go_at_call_of 14 (Value.slice (some ⟨b, o, sp⟩) c c)
                       (
                       refine (crc_any _ c c (l.take c) w6 hrF6 (by omega)).mono ?_
                       rintro e w7 ⟨rfl, hb7⟩
                       rw [HQ.out]
                       have hB7 := hB6.below hb7 hB6.lt
                       obtain ⟨x0, x1, x2, x3, x4⟩ := blk5 hB7
                       have hrA7 := (hrA6.below hb7).more hb7.size
                       have hbw7 := hbw6.trans (hb7.mono hbw6.size)))
                    | (go_at_call 17
                       go_must (
                       refine (update_any q hq _ 0 0 (l.drop c) w7 ((hrC.below hbw7).more hbw7.size) (by omega)).mono ?_
                       rintro e w8 ⟨rfl, hb8⟩
                       rw [hcp.out]
                       have hB8 := hB7.below hb8 hB7.lt
                       obtain ⟨y0, y1, y2, y3, y4⟩ := blk5 hB8
                       have hrA8 := (hrA7.below hb8).more hb8.size
                       have hbw8 := hbw7.trans (hb8.mono hbw7.size)))
                    | (go_at_call_of 14 (Value.slice (some ⟨b, o, sp⟩) c c)
                       (
                       refine (crc_any _ c c l w8 hrA8 (by omega)).mono ?_
                       rintro e w9 ⟨rfl, hb9⟩
                       have hB9 := hB8.below hb9 hB8.lt
                       obtain ⟨z0, z1, z2, z3, z4⟩ := blk5 hB9
                       have hbw9 := hbw8.trans (hb9.mono hbw8.size)))
                    | (go_at_call 12
                       go_must (
                       refine (works_any w9).mono ?_
                       rintro e w10 ⟨rfl, hb10⟩
                       have hBa := hB9.below hb10 hB9.lt
                       obtain ⟨a0, a1, a2, a3, a4⟩ := blk5 hBa
                       have hbwa := hbw9.trans (hb10.mono hbw9.size))))
                all_goals
                  go_wp2_with fail
                  go_ret
                  exact ⟨ret_bool rfl, hbwa⟩
              · rw [if_neg hck, Option.map_some] at hrC
                go_wp2_with (first
                  | (go_at_call 32
                     go_loud (
                     refine (digest_any _ n c l wr hrA (by omega)).mono ?_
                     rintro e w4 ⟨rfl, hb4⟩
                     rw [← HF.out]
                     have hrA4 := (hrA.below hb4).more hb4.size
                     have hbw4 := hbwr.trans (hb4.mono hbwr.size)
                     have hB4 := hB.below hb4 hB.lt
                     have htxt := hide (show isDig (textOf st) = true from text_dig st)
                     have hts : (⟨(textOf st).toArray⟩ : ByteArray).size = 40 := by simp [ByteArray.size, textOf]
                     generalize hT : (⟨(textOf st).toArray⟩ : ByteArray) = T at *
                     have HT := hide hT
                     have hdg : isDig T.data.toList = true := by rw [← hT]; exact text_dig st
                     clear hT))
                  | fail)
                unfold St.cells at hB4
                obtain ⟨q0, q1, q2, q3, q4⟩ := blk5 hB4
                have hcells : st.cells = #[.int .u32 st.a, .int .u32 st.b, .int .u32 st.c, .int .u32 st.d, .int .u32 st.e] := rfl
                have hkc' : (k : Int) ≤ (c : Int) := by omega
                have hrF := hrA4.front (m := k) (by omega)
                have hcp := hide (crc_parts (l.take k) (l.drop k))
                rw [List.take_append_drop] at hcp
                have hq : crcUpd 0 (l.take k) < 4294967296 := by rw [crcUpd_ref]; exact Nat.xor_lt_two_pow (n := 32) (refRun_lt _ _ (by decide)) (by decide)
                generalize hqe : crcUpd 0 (l.take k) = q at *
                have HQ := hide hqe
                clear hqe
                clear hcells
                go_region_held3 (fun w' => w'.cell? ⟨w2.heap.size, 0, none⟩ = some (.int .u32 st.a) ∧ w'.cell? ⟨w2.heap.size, 1, none⟩ = some (.int .u32 st.b) ∧ w'.cell? ⟨w2.heap.size, 2, none⟩ = some (.int .u32 st.c) ∧ w'.cell? ⟨w2.heap.size, 3, none⟩ = some (.int .u32 st.d) ∧ w'.cell? ⟨w2.heap.size, 4, none⟩ = some (.int .u32 st.e)) (go_keep)
                  (first
                    | (go_at_call 29
                       go_must (
                       refine (text_any st hfit w4.drew).mono ?_
                       rintro e w5 ⟨rfl, hb5⟩
                       rw [HT.out]
                       replace hb5 : Below w4.heap.size w4 w5 := undrew hb5
                       have hB5 := hB4.below hb5 hB4.lt
                       obtain ⟨r0, r1, r2, r3, r4⟩ := blk5 hB5
                       have hrA5 := (hrA4.below hb5).more hb5.size
                       have hbw5 := hbw4.trans (hb5.mono hbw4.size)))
                    | (go_at_call 34
                       go_must (
                       refine (is_any T w5 (by rw [hts]; decide)).mono ?_
                       rintro e w6 ⟨rfl, hb6⟩
                       rw [hdg]
                       have hB6 := hB5.below hb6 hB5.lt
                       obtain ⟨s0, s1, s2, s3, s4⟩ := blk5 hB6
                       have hrA6 := (hrA5.below hb6).more hb6.size
                       have hrF6 := hrA6.front (m := k) hkn'
                       have hbw6 := hbw5.trans (hb6.mono hbw5.size)))
                    | (go_at_call_of 14 (Value.slice (some ⟨b, o, sp⟩) k c)
                       go_must (
                       refine (crc_any _ k c (l.take k) w6 hrF6 (by omega)).mono ?_
                       rintro e w7 ⟨rfl, hb7⟩
                       rw [HQ.out]
                       have hB7 := hB6.below hb7 hB6.lt
                       obtain ⟨x0, x1, x2, x3, x4⟩ := blk5 hB7
                       have hrA7 := (hrA6.below hb7).more hb7.size
                       have hbw7 := hbw6.trans (hb7.mono hbw6.size)))
                    | (go_at_call 17
                       go_must (
                       refine (update_any q hq _ (n - k) (c - k) (l.drop k) w7 ((hrC.below hbw7).more hbw7.size) (by omega)).mono ?_
                       rintro e w8 ⟨rfl, hb8⟩
                       rw [hcp.out]
                       have hB8 := hB7.below hb8 hB7.lt
                       obtain ⟨y0, y1, y2, y3, y4⟩ := blk5 hB8
                       have hrA8 := (hrA7.below hb8).more hb8.size
                       have hbw8 := hbw7.trans (hb8.mono hbw7.size)))
                    | (go_at_call_of 14 (Value.slice (some ⟨b, o, sp⟩) n c)
                       go_must (
                       refine (crc_any _ n c l w8 hrA8 (by omega)).mono ?_
                       rintro e w9 ⟨rfl, hb9⟩
                       have hB9 := hB8.below hb9 hB8.lt
                       obtain ⟨z0, z1, z2, z3, z4⟩ := blk5 hB9
                       have hbw9 := hbw8.trans (hb9.mono hbw8.size)))
                    | (go_at_call 12
                       go_must (
                       refine (works_any w9).mono ?_
                       rintro e w10 ⟨rfl, hb10⟩
                       have hBa := hB9.below hb10 hB9.lt
                       obtain ⟨a0, a1, a2, a3, a4⟩ := blk5 hBa
                       have hbwa := hbw9.trans (hb10.mono hbw9.size))))
                all_goals
                  go_wp2_with fail
                  go_ret
                  exact ⟨ret_bool rfl, hbwa⟩
  · have hnI : (3000 : Int) < (n : Int) := by omega
    go_enter Try.func10, Try.ntmps10
    go_wp2_with (first
      | (go_at_call 12; refine (works_any _).mono ?_; rintro e w1 ⟨rfl, hb1⟩))
    go_ret
    exact ⟨ret_bool rfl, hb1⟩
end Go.Proofs.Ytiheldbiaamabaa
