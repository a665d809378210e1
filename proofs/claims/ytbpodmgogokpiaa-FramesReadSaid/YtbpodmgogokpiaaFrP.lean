/- The walk of the law FramesRead: it returns true at every input. Conditions: none. -/
import Derived.Test.YtbpodmgogokpiaaFrN
import Derived.Test.YtbpodmgogokpiaaFrJ
namespace Go.Proofs.Ytbpodmgogokpiaa
open Go.RowKit
set_option linter.unusedVariables false

theorem textsN_len : ∀ (k : Nat) (r x : List UInt8) (l : List ByteArray), textsN k r = some (l, x) → l.length = k
  | 0, r, x, l, h => by
    unfold textsN at h
    injection h with h
    injection h with h1 h2
    rw [← h1]; rfl
  | k + 1, r, x, l, h => by
    unfold textsN at h
    split at h
    · cases h
    · split at h
      · cases h
      · split at h
        · cases h
        · rename_i l' x' hx
          injection h with h
          injection h with h1 h2
          rw [← h1, List.length_cons, textsN_len k _ _ _ hx]
theorem textsB_len {b : List UInt8} {l : List ByteArray} (h : textsB b = some l) : l.length ≤ 65536 := by
  unfold textsB at h
  split at h
  · cases h
  · split at h
    · cases h
    · split at h
      · cases h
      · rename_i h1 h2 l' x' hx
        split at h
        · injection h with h
          rw [← h, textsN_len _ _ _ _ hx]
          omega
        · cases h
theorem readF_len {b : List UInt8} {l : List ByteArray} {k : Nat} (h : readF b = .inr (l, k)) : l.length ≤ 65536 := by
  unfold readF at h
  split at h
  · cases h
  · split at h
    · cases h
    · split at h
      · cases h
      · split at h
        · cases h
        · split at h
          · cases h
          · rename_i hx
            injection h with h
            injection h with h1 h2
            rw [← h1]
            exact textsB_len hx

set_option maxHeartbeats 8000000 in
theorem framesRead_any (A : Option Addr) (n c : Nat) (b : List UInt8) (w : World) (hr : Reads w w.heap.size 1 A n (bvs b)) (hc : n ≤ c) (hcm : c ≤ maxLen) :
    Calls Try.prog 4 #[.slice A n c] w fun e w' => e = .returned (.bool true) ∧ Below w.heap.size w w' := by
  have HL := hide hr.blen
  by_cases h3 : 3000 < n
  · have hI : (3000 : Int) < (n : Int) := by omega
    go_enter Try.func4, Try.ntmps4
    go_wp2_with (first
      | (go_at_call 11; refine (works_any _).mono ?_; rintro e w1 ⟨rfl, hb1⟩)
      | fail)
    go_ret
    exact ⟨rfl, hb1⟩
  · have hI : ¬ (3000 : Int) < (n : Int) := by omega
    obtain ⟨S, hS⟩ : ∃ S : ByteArray, ⟨b.toArray⟩ = S := ⟨_, rfl⟩
    have HS := hide hS
    clear hS
    have HTK : Hid ((b ++ [77]).take n = b) := by show _ = _; rw [← HL.out, List.take_left']; rfl
    have H77 : Hid ((((b ++ [77]).getD n 0).toNat : Int) = 77) := by
      show _ = _
      rw [← HL.out, List.getD_eq_getElem?_getD, List.getElem?_concat_length]
      rfl
    have hown0 : (w.alloc (.cells #[] 5)).ownsRow w.heap.size 5 1 (.slice (some ⟨w.heap.size, 0, none⟩) 0 0) 0 [] := World.ownsRow_made w #[] 0 (Nat.le_refl _) (by decide) rfl
    have hr0 := hr.alloc (Nat.le_refl _) (.cells #[] 5)
    have hb0 : Below w.heap.size w (w.alloc (.cells #[] 5)) := (Below.refl _ w).alloc (Nat.le_refl _) _
    cases hx : readF b with
    | inl e0 =>
      have HX := hide hx
      clear hx
      go_enter Try.func4, Try.ntmps4
      go_wp2_with (first
        | (refine wpList_append (o := ⟨some 16, _, _, _, _, _⟩) rfl (.tmp 14) (.tmp 15) 25 rfl u8_ok Try.underlying25 hown0 rfl hr0 rfl (bvs_one _) (by unfold maxLen; omega) (by omega) (by simp) ?_
           intro v1 w1 hown1 hb1 _ _
           rw [Nat.zero_add, List.nil_append] at hown1
           have hbw1 := hb0.trans hb1
           have hone := Reads.one_new w1 (.int .u8 77) 5)
        | (refine wpList_append (o := ⟨some 18, _, _, _, _, _⟩) rfl (.tmp 16) (.tmp 17) 25 rfl u8_ok Try.underlying25 (hown1.alloc _) rfl hone rfl (bvs_one [77]) (by unfold maxLen; omega) (by omega) (by have := hbw1.size; simp; omega) ?_
           intro v2 w2 hown2 hb2 _ _
           have hbw2 : Below w.heap.size w w2 := (hbw1.alloc hbw1.size _).trans hb2
           obtain ⟨g, cg, rfl, hcg1, hcg2, hg1, hg2⟩ := own_form hown2 (by omega)
           have hown2' : w2.ownsRow w.heap.size 5 1 (.slice (some ⟨g, 0, none⟩) (n + 1) cg) (n + 1) (bvs (b ++ [77])) := by rw [bvs_append]; exact hown2
           have hrm := (Reads.of_own hown2').front (m := n) (by omega)
           rw [HTK.out] at hrm
           obtain ⟨b', o', e1, _, hcs⟩ := (Reads.of_own hown2').byte (k := n) (by omega)
           obtain ⟨rfl, rfl⟩ : g = b' ∧ 0 = o' := by simpa using e1
           rw [H77.out] at hcs
           clear e1 hown2
           have hncgN : n ≤ cg := by omega
           have hncg : (n : Int) ≤ (cg : Int) := by omega
           have hn1cg : (n : Int) + 1 ≤ (cg : Int) := by omega)
        | (go_at_call 17
           go_must (
           refine (read_no _ n cg _ b w2 hrm hncgN hcg2 (by omega) HX.out).mono ?_
           rintro e w3 ⟨rfl, hb3⟩
           have hbw3 := hbw2.trans (hb3.mono hbw2.size)
           have hrm3 := hrm.below hb3
           have hcs3 := (hb3.cell (p := ⟨g, 0 + n, none⟩) hg2).trans hcs
           have hg3 : g < w3.heap.size := Nat.lt_of_lt_of_le hg2 hb3.size
           have hrm3 := hrm3.more hb3.size
           have hr3 := (hr.below hbw3).more hbw3.size))
        | (go_at_call 18
           go_must (
           refine (rread_any A n c b w3 hr3 hc hcm (by omega)).mono ?_
           rintro e w4 ⟨hP, hb4⟩
           unfold RReadPost at hP
           rw [HX.out] at hP
           subst hP
           have hbw4 := hbw3.trans (hb4.mono hbw3.size)
           have hrm4 := (hrm3.below hb4).more hb4.size
           have hcs4 := (hb4.cell (p := ⟨g, 0 + n, none⟩) hg3).trans hcs3
           have hr4 := (hr3.below hb4).more hb4.size
           have hg4 : g < w4.heap.size := Nat.lt_of_lt_of_le hg3 hb4.size))
        | (go_at_call 16
           go_must (
           refine (rone_any none 0 0 none 0 0 [] [] w4 (B := 0) (B' := 0) (Reads.none_ _ _ _ _) (Reads.none_ _ _ _ _) (by decide)).mono ?_
           rintro e w5 ⟨rfl, m5, hw5⟩
           rw [show decide (([] : List ByteArray) = []) = true from by simp]
           have hb5 : Below w4.heap.size w4 w5 := by rw [hw5]; exact below_drewN (Below.refl _ _) _
           have hcs5 := (hb5.cell (p := ⟨g, 0 + n, none⟩) hg4).trans hcs4
           rw [Nat.zero_add] at hcs5
           have hbw5 := hbw4.trans (hb5.mono hbw4.size)
           have hcv1 := run_bytes_str (P := Try.prog) 25 9 5 Try.underlying25 Try.underlying5 Try.underlying9 (hrm4.below hb5) cg
           have hcv2 := run_bytes_str (P := Try.prog) 25 9 5 Try.underlying25 Try.underlying5 Try.underlying9 (hr4.below hb5) c
           rw [HS.out] at hcv1 hcv2
           clear hw5))
        | (go_at_call 14; refine (num_any _ _).mono ?_; rintro e w2' ⟨rfl, rfl⟩)
        | (go_at_call 11; refine (works_any _).mono ?_; rintro e w7 ⟨rfl, hb7⟩)
        | fail)
      go_ret
      exact ⟨ret_bool rfl, hbw5.trans (hb7.mono hbw5.size)⟩
    | inr q =>
      obtain ⟨l, k⟩ := q
      have HX := hide hx
      have hll : l.length ≤ 200000 := Nat.le_trans (readF_len hx) (by decide)
      clear hx
      go_enter Try.func4, Try.ntmps4
      go_wp2_with (first
        | (refine wpList_append (o := ⟨some 16, _, _, _, _, _⟩) rfl (.tmp 14) (.tmp 15) 25 rfl u8_ok Try.underlying25 hown0 rfl hr0 rfl (bvs_one _) (by unfold maxLen; omega) (by omega) (by simp) ?_
           intro v1 w1 hown1 hb1 _ _
           rw [Nat.zero_add, List.nil_append] at hown1
           have hbw1 := hb0.trans hb1
           have hone := Reads.one_new w1 (.int .u8 77) 5)
        | (refine wpList_append (o := ⟨some 18, _, _, _, _, _⟩) rfl (.tmp 16) (.tmp 17) 25 rfl u8_ok Try.underlying25 (hown1.alloc _) rfl hone rfl (bvs_one [77]) (by unfold maxLen; omega) (by omega) (by have := hbw1.size; simp; omega) ?_
           intro v2 w2 hown2 hb2 _ _
           have hbw2 : Below w.heap.size w w2 := (hbw1.alloc hbw1.size _).trans hb2
           obtain ⟨g, cg, rfl, hcg1, hcg2, hg1, hg2⟩ := own_form hown2 (by omega)
           have hown2' : w2.ownsRow w.heap.size 5 1 (.slice (some ⟨g, 0, none⟩) (n + 1) cg) (n + 1) (bvs (b ++ [77])) := by rw [bvs_append]; exact hown2
           have hrm := (Reads.of_own hown2').front (m := n) (by omega)
           rw [HTK.out] at hrm
           obtain ⟨b', o', e1, _, hcs⟩ := (Reads.of_own hown2').byte (k := n) (by omega)
           obtain ⟨rfl, rfl⟩ : g = b' ∧ 0 = o' := by simpa using e1
           rw [H77.out] at hcs
           clear e1 hown2
           have hncgN : n ≤ cg := by omega
           have hncg : (n : Int) ≤ (cg : Int) := by omega
           have hn1cg : (n : Int) + 1 ≤ (cg : Int) := by omega)
        | (go_at_call 17
           go_must (
           refine (read_yes _ n cg k l b w2 hrm hncgN hcg2 (by omega) HX.out).mono ?_
           rintro e w3 ⟨v3, rfl, ho3, hb3⟩
           obtain ⟨A3, c3, rfl, hc31, hc32⟩ := own_slice ho3
           have hbw3 := hbw2.trans (hb3.mono hbw2.size)
           have hrm3 := hrm.below hb3
           have hcs3 := (hb3.cell (p := ⟨g, 0 + n, none⟩) hg2).trans hcs
           have hg3 : g < w3.heap.size := Nat.lt_of_lt_of_le hg2 hb3.size
           have hrm3 := hrm3.more hb3.size
           have hr3 := (hr.below hbw3).more hbw3.size))
        | (go_at_call 18
           go_must (
           refine (rread_any A n c b w3 hr3 hc hcm (by omega)).mono ?_
           rintro e w4 ⟨hP, hb4⟩
           unfold RReadPost at hP
           rw [HX.out] at hP
           obtain ⟨v4, rfl, ho4⟩ := hP
           obtain ⟨A4, c4, rfl, hc41, hc42⟩ := own_slice ho4
           have ho34 := own_below ho3 hb4
           have hbw4 := hbw3.trans (hb4.mono hbw3.size)
           have hrm4 := (hrm3.below hb4).more hb4.size
           have hcs4 := (hb4.cell (p := ⟨g, 0 + n, none⟩) hg3).trans hcs3
           have hr4 := (hr3.below hb4).more hb4.size
           have hg4 : g < w4.heap.size := Nat.lt_of_lt_of_le hg3 hb4.size))
        | (go_at_call 16
           go_must (
           refine (rone_any A3 l.length c3 A4 l.length c4 l l w4 (Reads.of_own ho34) (Reads.of_own ho4) hll).mono ?_
           rintro e w5 ⟨rfl, m5, hw5⟩
           rw [show decide (l = l) = true from by simp]
           have hb5 : Below w4.heap.size w4 w5 := by rw [hw5]; exact below_drewN (Below.refl _ _) _
           have hcs5 := (hb5.cell (p := ⟨g, 0 + n, none⟩) hg4).trans hcs4
           rw [Nat.zero_add] at hcs5
           have hbw5 := hbw4.trans (hb5.mono hbw4.size)
           have hcv1 := run_bytes_str (P := Try.prog) 25 9 5 Try.underlying25 Try.underlying5 Try.underlying9 (hrm4.below hb5) cg
           have hcv2 := run_bytes_str (P := Try.prog) 25 9 5 Try.underlying25 Try.underlying5 Try.underlying9 (hr4.below hb5) c
           rw [HS.out] at hcv1 hcv2
           clear hw5))
        | (go_at_call 14; refine (num_any 0 _).mono ?_; rintro e w2' ⟨rfl, rfl⟩)
        | (go_at_call 11; refine (works_any _).mono ?_; rintro e w7 ⟨rfl, hb7⟩)
        | fail)
      go_ret
      exact ⟨ret_bool rfl, hbw5.trans (hb7.mono hbw5.size)⟩
end Go.Proofs.Ytbpodmgogokpiaa
