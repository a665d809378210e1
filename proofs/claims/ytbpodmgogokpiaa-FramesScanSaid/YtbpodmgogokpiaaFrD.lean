/- The walk of Put (package taborref03). Conditions: those of each theorem. -/
import Derived.Test.YtbpodmgogokpiaaFrC
import Derived.Test.YtbpodmgogokpiaaStep
import Derived.Test.YtbpodmgogokpiaaCrcLaw
import Derived.Deep.RegionHeld3
import Derived.Deep.RegionLaw
import Derived.Deep.DrawnRows
namespace Go.Proofs.Ytbpodmgogokpiaa
open Go.RowKit
set_option linter.unusedVariables false
attribute [local go_sem ↓] Go.wp_at_zero Go.wp_at_succ

theorem crc_parts (a b : List UInt8) : crcUpd (crcUpd 0 a) b = crcUpd 0 (a ++ b) := by
  unfold crcUpd crcRun
  rw [List.foldl_append, Nat.xor_assoc, Nat.xor_self, Nat.xor_zero]
theorem sumF_ref (l : List UInt8) : sumF l = refUpd 0 (le4 l.length ++ l) := by unfold sumF; rw [crc_parts, crcUpd_ref]

theorem Reads.grownFar {w w' : World} {gC o n : Nat} {xs : List Value} {row : Option Nat} (h : Reads w w.heap.size 1 (some ⟨gC, o, none⟩) n xs) (hg : w.grownBy w' row) (hne : row ≠ some gC) : Reads w' w'.heap.size 1 (some ⟨gC, o, none⟩) n xs :=
  ⟨h.1, fun hn => by
    obtain ⟨b, o', e, hb, hc⟩ := h.2 hn
    obtain ⟨rfl, rfl⟩ : gC = b ∧ o = o' := by simpa using e
    have := hg.size
    exact ⟨gC, o, rfl, by omega, fun j u hu => (World.cell?_of_block (a := ⟨gC, o + j, none⟩) (hg.block gC hb (fun e => hne e.symm))).trans (hc j u hu)⟩⟩
theorem rfour_any (k : Nat) (hk : k < 4294967296) (w : World) :
    Calls Try.prog 29 #[.int .i64 k] w fun e w' => ∃ g, e = .returned (.slice (some ⟨g, 0, none⟩) 4 4) ∧ w.heap.size ≤ g ∧ Blk w' g 5 (bvs (le4 k)).toArray ∧ Below w.heap.size w w' := by
  have hw : IntKind.u32.wrap (k : Int) = (k : Int) := by rw [IntKind.wrap_u32]; omega
  go_enter Try.func29, Try.ntmps29
  go_wp2_with (first
    | (go_at_call 31
       go_must (
       refine (rbytes_any k hk w).mono ?_
       rintro e w1 ⟨g, rfl, hg, hB1, hb1⟩))
    | fail)
  go_ret
  exact ⟨_, rfl, hg, hB1, hb1⟩

theorem rput_long (A : Option Addr) (n c : Nat) (l : List ByteArray) (w : World) {B : Nat} (hr : Reads w B 1 A n (svs l)) (hs : ∀ s ∈ l, s.size ≤ 140737488351232) (h0 : sizeF l = 0) :
    Calls Try.prog 13 #[.slice A n c] w fun e w' => e = .returned (.tuple #[.slice none 0 0, .int .i64 3]) ∧ w = w' := by
  have H := hide (rsize_any A n c l w hr hs)
  rw [h0] at H
  clear h0
  go_enter Try.func13, Try.ntmps13
  go_wp2_with (first
    | (go_at_call 28; refine H.out.mono ?_; rintro e w1 ⟨rfl, rfl⟩)
    | fail)
  go_ret2
  exact ⟨rfl, rfl⟩

set_option maxHeartbeats 4000000 in
theorem rput_any (A : Option Addr) (n c : Nat) (l : List ByteArray) (w : World) (hr : Reads w w.heap.size 1 A n (svs l)) (hs : ∀ s ∈ l, s.size ≤ 140737488351232) (h0 : ¬ sizeF l = 0) :
    Calls Try.prog 13 #[.slice A n c] w fun e w' => ∃ v, e = .returned (.tuple #[v, .int .i64 0]) ∧ w'.ownsRow w.heap.size 5 1 v (frameF l).length (bvs (frameF l)) ∧ Below w.heap.size w w' := by
  have H := hide (rsize_any A n c l w hr hs)
  have hf : l.length ≤ 65536 ∧ fsum l l.length ≤ 1048576 := by
    unfold sizeF at h0
    split at h0
    · assumption
    · exact absurd rfl h0
  have hsz : sizeF l = fsum l l.length + 8 := by unfold sizeF; rw [if_pos hf]
  have hl := hide hr.slen
  have hbl := hide (bodyT_length l l.length)
  obtain ⟨hf1, hf2⟩ := hf
  have hn : n ≤ 65536 := by rw [← hl.out]; exact hf1
  rw [hsz] at H
  clear hsz h0 hf1
  have HFL := hide (frame_length l)
  obtain ⟨q, hq⟩ : ∃ q, fsum l l.length = q := ⟨_, rfl⟩
  rw [hq] at H hf2 hbl HFL
  have HQ := hide hq
  clear hq
  have hqz : (((q + 8 : Nat) : Int) == 0) = false := by simp; omega
  go_enter Try.func13, Try.ntmps13
  go_wp2_with (first
    | (go_at_call 28; refine H.out.mono ?_; rintro e w1 ⟨rfl, rfl⟩)
    | (go_at_call 29
       go_must (
       refine (rfour_any n (by omega) w).mono ?_
       rintro e w3 ⟨g3, rfl, hg3, hB3, hb3⟩))
    | fail)
  have hown3 : w3.ownsRow w.heap.size 5 1 (.slice (some ⟨g3, 0, none⟩) 4 4) 4 (bvs (le4 n)) := ⟨rfl, .inr ⟨g3, 4, _, rfl, hg3, hB3, Nat.le_refl _, by decide, rfl, rfl⟩⟩
  clear hB3
  go_loopw [4, 5] (fun v i wr => ∃ t : Nat, t ≤ n ∧ i = .int .i64 t ∧ wr.ownsRow w.heap.size 5 1 v (fsum l t) (bvs (bodyT l t)) ∧ Below w.heap.size w wr)
    (fun _ i _ => n - (intOf i).toNat)
  case atStart => exact ⟨0, by omega, rfl, by rw [fsum_zero, bodyT_zero, hl.out]; exact hown3, hb3⟩
  case round =>
    clear hown3 hb3 hg3
    obtain ⟨t, ht, rfl, how, hbw⟩ := hrel
    by_cases htn : t < n
    · have htI : (t : Int) < (n : Int) := by omega
      have ht0 : (0 : Int) ≤ (t : Int) := by omega
      obtain ⟨b, o, s, rfl, hb, hls, hcell⟩ := (hr.below hbw).text htn
      have hw2 : IntKind.i64.wrap ((t : Int) + 1) = (t : Int) + 1 := IntWalk.i64_in _ (by omega)
      have HS := hide (fsum_succ hls)
      have HBS := hide (bodyT_succ hls)
      have hle : fsum l (t + 1) ≤ q := by rw [← HQ.out]; exact fsum_le l (by rw [hl.out]; omega)
      rw [HS.out] at hle
      have hss : s.size < 4294967296 := by omega
      have hfs : fsum l t + 4 + s.size ≤ 1048576 := by omega
      clear hls hle
      generalize fsum l t = a at *
      generalize bodyT l t = bt at *
      obtain ⟨A4, c4, rfl, hc41, hc42⟩ := own_slice how
      have hrG : True := trivial
      have hrC : True := trivial
      have hcB : ∀ w', Below w.heap.size w w' → w'.cell? ⟨b, o + t, none⟩ = some (.string s) := fun w' h => (h.cell (p := ⟨b, o + t, none⟩) hb).trans ((hbw.cell (p := ⟨b, o + t, none⟩) hb).symm.trans hcell)
      have HCB := hide hcB
      clear hcB
      have hfour := fun w => hide (rfour_any s.size hss w)
      go_wp2_with fail
      have HV : Hid (∀ k, (Value.slice A4 a c4).ownBlock = some k → k < wr.heap.size) := fun k e => (how.lt k e).2
      have how := how.drew
      have hbw := hbw.drew
      have hsz : wr.heap.size ≤ wr.drew.heap.size := Nat.le_refl _
      have hconv := fun w => run_conv (P := Try.prog) w 9 25 5 s Try.underlying9 Try.underlying25 Try.underlying5
      have hcw : (convW s 5 wr.drew).cell? ⟨b, o + t, none⟩ = some (.string s) := HCB.out _ (hbw.trans ((convW_below s 5 _).mono hbw.size))
      go_region_law (first
          | (go_simp
             go_at_call 29
             go_must (
             refine (hfour _).out.mono ?_
             rintro e w3 ⟨g3, rfl, hg3, hB3, hb3⟩
             first
               | (have how := own_below how hb3
                  have hbw := hbw.trans (hb3.mono hbw.size)
                  have hsz := Nat.le_trans hsz hb3.size)
               | (have hrC := ((convW_reads s 5 _).below hb3).more hb3.size
                  have hgC := hsz
                  have how := own_below (own_below how (convW_below s 5 _)) hb3
                  have hbw := (hbw.trans ((convW_below s 5 _).mono hbw.size)).trans (hb3.mono (hbw.trans ((convW_below s 5 _).mono hbw.size)).size))
             have hrG := le4_reads (B := w3.heap.size) s.size hB3 hB3.lt
             have hcx := HCB.out _ hbw))
          | (refine step_append (o := ⟨some 27, _, _, _, _, _⟩) (by rfl) (.tmp 20) (.tmp 26) 25 (by rfl) u8_ok Try.underlying25 how (by rfl) hrG (by rfl) (bvs_one _) (by unfold maxLen; omega) (by omega) hbw.size ?_
             intro v5 w3 how' hb3 hg3
             obtain ⟨A5, c5, rfl, hc51, hc52⟩ := own_slice how'
             first | (have hrC := hrC.grownFar hg3 (fun e => absurd (Nat.lt_of_lt_of_le (HV.out _ e) hgC) (Nat.lt_irrefl _))) | skip
             have how := how'
             have hbw := hbw.trans hb3
             have hcx := HCB.out _ hbw)
          | (refine step_append (o := ⟨some 27, _, _, _, _, _⟩) (by rfl) (.tmp 20) (.tmp 26) 25 (by rfl) u8_ok Try.underlying25 (own_below how (convW_below s 5 _)) (by rfl) ((hrG.below (convW_below s 5 _)).more (convW_below s 5 _).size) (by rfl) (bvs_one _) (by unfold maxLen; omega) (by omega) (hbw.trans ((convW_below s 5 _).mono hbw.size)).size ?_
             intro v5 w3 how' hb3 hg3
             obtain ⟨A5, c5, rfl, hc51, hc52⟩ := own_slice how'
             have hrC := (convW_reads s 5 _).grownFar hg3 (fun e => absurd (Nat.lt_of_lt_of_le (HV.out _ e) hsz) (Nat.lt_irrefl _))
             have how := how'
             have hbw := (hbw.trans ((convW_below s 5 _).mono hbw.size)).trans hb3
             have hcx := HCB.out _ hbw)
          | (refine step_append (o := ⟨some 33, _, _, _, _, _⟩) (by rfl) (.tmp 27) (.tmp 32) 25 (by rfl) u8_ok Try.underlying25 how (by rfl) hrC (by rfl) (bvs_one _) (by unfold maxLen; omega) (by omega) hbw.size ?_
             intro v5 w3 how' hb3 hg3
             have hbw := hbw.trans hb3)
          | (refine step_append (o := ⟨some 33, _, _, _, _, _⟩) (by rfl) (.tmp 27) (.tmp 32) 25 (by rfl) u8_ok Try.underlying25 (own_below how (convW_below s 5 _)) (by rfl) (convW_reads s 5 _) (by rfl) (bvs_one _) (by unfold maxLen; omega) (by omega) (hbw.trans ((convW_below s 5 _).mono hbw.size)).size ?_
             intro v5 w3 how' hb3 hg3
             have hbw := (hbw.trans ((convW_below s 5 _).mono hbw.size)).trans hb3))
      all_goals
        rw [← bvs_append, ← bvs_append] at how'
        go_wp2_with fail
        go_roundw
        case rel =>
          refine ⟨t + 1, by omega, by simp, ?_, hbw⟩
          rw [HS.out, HBS.out]
          exact how'
        case measure => simp [intOf]; omega
    · have htI : ¬ (t : Int) < (n : Int) := by omega
      obtain rfl : t = n := by omega
      rw [← hl.out, HQ.out] at how
      have hq4 : 4 ≤ q := by
        rw [← HQ.out]
        have := fsum_le l (t := 0) (u := l.length) (Nat.zero_le _)
        rw [fsum_zero] at this
        exact this
      obtain ⟨g5, c5, rfl, hc51, hc52, hg51, hg52⟩ := own_form how (by omega)
      have HB : Hid (bodyT l l.length = bodyF l) := rfl
      rw [HB.out] at how hbl
      have hsr := hide (sumF_ref (bodyF l))
      have hlt := sumF_lt (bodyF l)
      have HFR : Hid (frameF l = le4 q ++ le4 (sumF (bodyF l)) ++ bodyF l) := by
        show _ = _
        unfold frameF
        rw [hbl.out]
      have HSR : Hid (refUpd 0 (le4 q ++ bodyF l) = sumF (bodyF l)) := by
        show _ = _
        rw [hsr.out, hbl.out]
      have hrb := Reads.of_own how
      generalize sumF (bodyF l) = sm at *
      generalize bodyF l = bd at *
      clear hsr HB
      go_wp2_with (first
        | (go_at_call 29
           go_must (
           refine (rfour_any q (by omega) wr).mono ?_
           rintro e w6 ⟨g6, rfl, hg6, hB6, hb6⟩
           have hr6 := le4_reads (B := w6.heap.size) q hB6 hB6.lt
           have hown6 : w6.ownsRow w.heap.size 5 1 (.slice (some ⟨g6, 0, none⟩) 4 4) 4 (bvs (le4 q)) := ⟨rfl, .inr ⟨g6, 4, _, rfl, Nat.le_trans hbw.size hg6, hB6, Nat.le_refl _, by decide, rfl, rfl⟩⟩
           have hbw6 := hbw.trans (hb6.mono hbw.size)
           have hrb6 := (hrb.below hb6).more hb6.size
           have hown7 : (w6.alloc (.cells #[] 5)).ownsRow w6.heap.size 5 1 (.slice (some ⟨w6.heap.size, 0, none⟩) 0 0) 0 [] := World.ownsRow_made w6 #[] 0 (Nat.le_refl _) (by decide) rfl
           have hr6a := hr6.alloc (Nat.le_refl _) (.cells #[] 5)
           have hb6a : Below w6.heap.size w6 (w6.alloc (.cells #[] 5)) := (Below.refl _ w6).alloc (Nat.le_refl _) _))
        | (refine wpList_append (o := ⟨some 39, _, _, _, _, _⟩) rfl (.tmp 37) (.tmp 38) 25 rfl u8_ok Try.underlying25 hown7 rfl hr6a rfl (bvs_one _) (by unfold maxLen; omega) (by omega) (by simp) ?_
           intro v8 w8 hown8 hb8 _ _
           have hb68 := hb6a.trans hb8
           have hrb8 := hrb6.below hb68
           rw [Nat.zero_add, List.nil_append] at hown8)
        | (refine wpList_append (o := ⟨some 41, _, _, _, _, _⟩) rfl (.tmp 39) (.tmp 40) 25 rfl u8_ok Try.underlying25 hown8 rfl hrb8 rfl (bvs_one _) (by unfold maxLen; omega) (by omega) hb68.size ?_
           intro v9 w9 hown9 hb9 _ _
           have hb69 := hb68.trans hb9
           rw [← bvs_append] at hown9
           obtain ⟨A9, c9, rfl, hc91, hc92⟩ := own_slice hown9
           have hr9 := Reads.of_own hown9)
        | (go_at_call 30
           go_must (
           refine (rcrc_any A9 (4 + q) c9 _ w9 hr9 (by unfold maxLen; omega)).mono ?_
           rintro e w9' ⟨rfl, rfl⟩
           rw [HSR.out]))
        | (go_at_call 31
           go_must (
           refine (rbytes_any sm hlt w9).mono ?_
           rintro e w10 ⟨g10, rfl, hg10, hB10, hb10⟩
           have hr10 := le4_reads (B := w10.heap.size) sm hB10 hB10.lt
           have hb610 := hb69.trans (hb10.mono hb69.size)
           have hown10 := own_below hown6 hb610
           have hbw10 := hbw6.trans (hb610.mono hbw6.size)
           have hrb10 := hrb6.below hb610))
        | (refine wpList_append (o := ⟨some 46, _, _, _, _, _⟩) rfl (.tmp 43) (.tmp 45) 25 rfl u8_ok Try.underlying25 hown10 rfl hr10 rfl (bvs_one _) (by unfold maxLen; omega) (by omega) hbw10.size ?_
           intro v11 w11 hown11 hb11 hg11 _
           rw [← bvs_append] at hown11
           have hrb11 := (hrb10.more hb610.size).grownFar hg11 (fun e => by simp [Value.ownBlock] at e; omega)
           have hbw11 := hbw10.trans hb11)
        | (refine wpList_append (o := ⟨some 48, _, _, _, _, _⟩) rfl (.tmp 46) (.tmp 47) 25 rfl u8_ok Try.underlying25 hown11 rfl hrb11 rfl (bvs_one _) (by unfold maxLen; omega) (by omega) hbw11.size ?_
           intro v12 w12 hown12 hb12 _ _
           rw [← bvs_append] at hown12
           have hbw12 := hbw11.trans hb12)
        | fail)
      go_ret2
      refine ⟨_, rfl, ?_, hbw12⟩
      rw [HFL.out, HFR.out]
      have e : 4 + 4 + q = q + 8 := by omega
      rw [e] at hown12
      exact hown12
end Go.Proofs.Ytbpodmgogokpiaa
