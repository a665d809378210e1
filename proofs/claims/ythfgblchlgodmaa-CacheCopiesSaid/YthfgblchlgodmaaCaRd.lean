/- The walk of the document's Digest (package taborref01). Conditions: at most 100000 bytes. -/
import Derived.Test.YthfgblchlgodmaaRefC
import Derived.Test.YthfgblchlgodmaaDigest
import Derived.Test.YthfgblchlgodmaaPad
namespace Go.Proofs.Ythfgblchlgodmaa
open Go.RowKit
set_option linter.unusedVariables false

theorem own_reads {w : World} {base : Nat} {e : TypeId} {v : Value} {n : Nat} {xs : List Value} (h : w.ownsRow base e 1 v n xs) (hn : 0 < n) :
    ∃ g c, v = .slice (some ⟨g, 0, none⟩) n c ∧ n ≤ c ∧ c ≤ maxLen ∧ base ≤ g ∧ g < w.heap.size ∧ Reads w w.heap.size 1 (some ⟨g, 0, none⟩) n xs := by
  obtain ⟨g, c, rfl, h1, h2, h3, h4⟩ := own_form h hn
  exact ⟨g, c, rfl, h1, h2, h3, h4, Reads.of_own h⟩
theorem padded_pos (l : List UInt8) : 0 < (padded l).length := by rw [padded_length]; omega

theorem undrew {B : Nat} {w w' : World} (h : Below B w.drew w') : Below B w w' := ⟨h.os, h.tape, h.output, h.size, h.block⟩

set_option maxHeartbeats 4000000 in
set_option maxRecDepth 20000 in
theorem rdigest_any (A : Option Addr) (n c : Nat) (l : List UInt8) (w : World) (hr : Reads w w.heap.size 1 A n (bvs l)) (hn : n ≤ 100000) :
    Calls Try.prog 40 #[.slice A n c] w fun e w' => e = .returned (.string ⟨(textOf (digSt l)).toArray⟩) ∧ Below w.heap.size w w' := by
  have hl := hide hr.blen
  have hpos := padded_pos l
  have hpm := hide (padded_mod l)
  have hplen := hide (padded_length l)
  go_enter Try.func40, Try.ntmps40
  go_wp2_with (first
    | (go_at_call 52
       go_must (
       refine (rstart_any w).mono ?_
       rintro e w2 ⟨rfl, hb2⟩
       have hr2 := (hr.below hb2).more hb2.size
       have hs5 : start.cells = #[.int .u32 start.a, .int .u32 start.b, .int .u32 start.c, .int .u32 start.d, .int .u32 start.e] := rfl
       rw [hs5]
       clear hs5))
    | (go_at_call 53
       go_must (
       have hst : Blk (w2.alloc (.cells #[.int .u32 start.a, .int .u32 start.b, .int .u32 start.c, .int .u32 start.d, .int .u32 start.e] 93)) w2.heap.size 93 start.cells := Blk.new w2 _ _
       have hb3 : Below w.heap.size w (w2.alloc (.cells #[.int .u32 start.a, .int .u32 start.b, .int .u32 start.c, .int .u32 start.d, .int .u32 start.e] 93)) := hb2.alloc hb2.size _
       have hr3 := (hr.below hb3).more hb3.size
       have hz3 : w2.heap.size < (w2.alloc (.cells #[.int .u32 start.a, .int .u32 start.b, .int .u32 start.c, .int .u32 start.d, .int .u32 start.e] 93)).heap.size := by simp
       generalize w2.alloc (.cells #[.int .u32 start.a, .int .u32 start.b, .int .u32 start.c, .int .u32 start.d, .int .u32 start.e] 93) = W0 at *
       refine (rpad_any A n c l W0 hr3 hn).mono ?_
       rintro e w4 ⟨v1, rfl, hown1, hb4⟩
       obtain ⟨g1, cap1, rfl, hcap1, hcm1, hg1, hgl1, hrd1⟩ := own_reads hown1 hpos
       generalize hN : (padded l).length = N at *
       have HN := hide hN
       clear hN
       have hst4 := hst.below hb4 hz3
       have hbw4 := hb3.trans (hb4.mono hb3.size)
       clear hst hr3 hown1))
    | fail)
  have hgS : w.heap.size ≤ w2.heap.size := hb2.size
  have hgne : g1 ≠ w2.heap.size := by omega
  generalize w2.heap.size = gS at *
  go_loopw [5] (fun i wr => ∃ (j P : Nat) (st : St), Hid (P = 64 * j) ∧ i = .int .i64 (P : Int) ∧ P ≤ N ∧ st.fits ∧ Blk wr gS 93 st.cells ∧ (chunks (N / 64 - j) ((padded l).drop P)).foldl blockOf st = digSt l ∧ Below w.heap.size w wr ∧ Reads wr wr.heap.size 1 (some ⟨g1, 0, none⟩) N (bvs (padded l)))
    (fun i _ => N - (intOf i).toNat)
  case atStart => exact ⟨0, 0, start, hide rfl, rfl, by omega, start_fits, hst4, by rw [List.drop_zero, Nat.sub_zero, ← HN.out]; rfl, hbw4, hrd1⟩
  case round =>
    obtain ⟨j, P, st, hPj, rfl, hj, hfit, hB, hfold, hbr, hrP⟩ := hrel
    by_cases hjN : P < N
    · have hjI : (P : Int) < (N : Int) := by omega
      have hj64 : P + 64 ≤ N := by have := hpm.out; have := hPj.out; omega
      have hjI0 : (0 : Int) ≤ (P : Int) := by omega
      have hjI1 : (P : Int) ≤ (P : Int) + 64 := by omega
      have hjI2 : (P : Int) + 64 ≤ (cap1 : Int) := by omega
      have hjw : IntKind.i64.wrap ((P : Int) + 64) = (P : Int) + 64 := by rw [IntKind.wrap_i64]; unfold maxLen at hcm1; omega
      have hrb := (hrP.cut (k := P) (m := 64) (cap := cap1) (by omega) hcap1)
      rw [if_neg (by omega), bvs_drop, bvs_take, Option.map_some, add_lit, Nat.zero_add] at hrb
      have hKj : N / 64 - j = (N / 64 - (j + 1)) + 1 := by have := hPj.out; omega
      rw [hKj] at hfold
      simp only [chunks, List.foldl_cons, List.drop_drop] at hfold
      have hfit' : (blockOf st ((padded l).drop P |>.take 64)).fits := addSt_fits _ _
      generalize ((padded l).drop P |>.take 64) = bl at *
      generalize hst' : blockOf st bl = st' at *
      have hlt := hB.lt
      unfold St.cells at hB
      obtain ⟨q0, q1, q2, q3, q4⟩ := blk5 hB
      have hcp : ¬ cap1 = P := by omega
      have htn : ((P : Int) + 64).toNat - P = 64 := by omega
      go_wp2_with fail
      refine wp_region_still_tail 6 (by kernel_rfl) (by kernel_rfl) ?_
      simp only [List.take_succ_cons, List.take_zero, List.drop_succ_cons, List.drop_zero]
      repeat still_step
      refine wpStill_nil ?_
      change wpList _ _ _ _ _ wr.drew
      have HST := hide hst'
      go_wp2_with (first
        | (go_at_call 54
           go_must (
           refine (rblock_any st hfit (some ⟨g1, P, none⟩) (cap1 - P) bl wr.drew hrb (by omega) (by omega)).mono ?_
           rintro e w3 ⟨rfl, hb4⟩
           rw [HST.out]
           replace hb4 : Below wr.heap.size wr w3 := undrew hb4
           have hB4 := hB.below hb4 hlt
           have hc' : st'.cells = #[.int .u32 st'.a, .int .u32 st'.b, .int .u32 st'.c, .int .u32 st'.d, .int .u32 st'.e] := rfl
           rw [hc']))
        | (refine wpList_store_row rfl 93 (.tmp 3) (.tmp 21) rfl gS rfl rfl hB4 (show (5 : Nat) = 5 from rfl) (five_ints _ _ _ _ _) (by kernel_rfl) ?_; intro w6 hrs6 hb6)
        | fail)
      go_roundw
      case rel =>
        refine ⟨j + 1, P + 64, st', hide (by have := hPj.out; omega), by simp, hj64, hfit', hb6, hfold, ?_, ?_⟩
        · exact (hbr.trans (hb4.mono hbr.size)).trans (hrs6.below hgS)
        · exact (((hrP.below hb4).row hrs6 (by simpa using hgne))).more (by have := hb4.size; rw [hrs6.2.1]; omega)
      case measure => simp [intOf]; omega
    · have hjI : ¬ (P : Int) < (N : Int) := by omega
      have hKj : N / 64 - j = 0 := by have := hPj.out; have := hpm.out; omega
      rw [hKj] at hfold
      have HF : Hid (st = digSt l) := hfold
      clear hfold hKj
      unfold St.cells at hB
      obtain ⟨q0, q1, q2, q3, q4⟩ := blk5 hB
      go_wp2_with (first
        | (go_at_call 55
           go_must (
           refine (rtext_any st hfit wr).mono ?_
           rintro e w5 ⟨rfl, hb5⟩
           rw [HF.out]))
        | fail)
      go_ret
      exact ⟨rfl, hbr.trans (hb5.mono hbr.size)⟩
end Go.Proofs.Ythfgblchlgodmaa
