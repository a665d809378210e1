/- The walk of the law FramesPut: it returns true at every input. Conditions: no text takes more than the form's reach. -/
import Derived.Test.YtbpodmgogokpiaaFrN
import Derived.Test.YtbpodmgogokpiaaFrD
namespace Go.Proofs.Ytbpodmgogokpiaa
open Go.RowKit
set_option linter.unusedVariables false

theorem Reads.head {w : World} {B n m : Nat} {A : Option Addr} {xs : List Value} (h : Reads w B 1 A n xs) (hm : m ≤ n) : Reads w B 1 A m (xs.take m) := by
  refine ⟨by rw [List.length_take]; have := h.1; omega, fun h0 => ?_⟩
  obtain ⟨b, o, e, hb, hc⟩ := h.2 (by omega)
  exact ⟨b, o, e, hb, fun j u hu => hc j u (by
    rw [List.getElem?_take] at hu
    split at hu
    · exact hu
    · cases hu)⟩
theorem few_size {l : List ByteArray} (h : accT l l.length ≤ 3000) : ¬ sizeF l = 0 := by
  have h1 := few_facts h
  have h2 : fsum l l.length = 4 + accT l l.length := by unfold fsum accT; rfl
  unfold sizeF
  rw [if_pos ⟨by omega, by omega⟩]
  omega
theorem few_len {l : List ByteArray} (h : accT l l.length ≤ 3000) : (frameF l).length ≤ 3012 := by
  have h2 : fsum l l.length = 4 + accT l l.length := by unfold fsum accT; rfl
  rw [frame_length]
  omega
theorem few_sizeF {l : List ByteArray} (h : accT l l.length ≤ 3000) : sizeF l = (frameF l).length := by
  have h1 := few_facts h
  have h2 : fsum l l.length = 4 + accT l l.length := by unfold fsum accT; rfl
  unfold sizeF
  rw [if_pos ⟨by omega, by omega⟩, frame_length]
def sSpare : ByteArray := ⟨#[115, 112, 97, 114, 101]⟩

set_option maxHeartbeats 8000000 in
theorem framesPut_any (A : Option Addr) (n c : Nat) (l : List ByteArray) (w : World) (hr : Reads w w.heap.size 1 A n (svs l)) (hc : n ≤ c) (hcm : c ≤ maxLen) (hs : ∀ s ∈ l, s.size ≤ 140737488351232) :
    Calls Try.prog 3 #[.slice A n c] w fun e w' => e = .returned (.bool true) ∧ Below w.heap.size w w' := by
  have hl := hide hr.slen
  have hfw := hide (few_any A n c l w hr (by omega) hs)
  by_cases hf : accT l l.length ≤ 3000
  case neg =>
    have hd : decide (accT l l.length ≤ 3000) = false := by simpa using hf
    go_enter Try.func3, Try.ntmps3
    go_wp2_with (first
      | (go_at_call 10; refine hfw.out.mono ?_; rintro e w1 ⟨hp, rfl⟩; unfold FewPost at hp; subst hp; rw [hd])
      | (go_at_call 11; refine (works_any _).mono ?_; rintro e w1 ⟨rfl, hb1⟩)
      | fail)
    go_ret
    exact ⟨rfl, hb1⟩
  case pos =>
    have hd : decide (accT l l.length ≤ 3000) = true := by simpa using hf
    obtain ⟨hn3, hsz⟩ := few_facts hf
    rw [hl.out] at hn3
    have HSZ := hide (few_size hf)
    have HSF := hide (few_sizeF hf)
    have hfl := few_len hf
    obtain ⟨S, hS⟩ : ∃ S : ByteArray, ⟨(frameF l).toArray⟩ = S := ⟨_, rfl⟩
    have HS := hide hS
    clear hS
    have hown0 : (w.alloc (.cells #[] 9)).ownsRow w.heap.size 9 1 (.slice (some ⟨w.heap.size, 0, none⟩) 0 0) 0 [] := World.ownsRow_made w #[] 0 (Nat.le_refl _) (by decide) rfl
    have hr0 := hr.alloc (Nat.le_refl _) (.cells #[] 9)
    have hb0 : Below w.heap.size w (w.alloc (.cells #[] 9)) := (Below.refl _ w).alloc (Nat.le_refl _) _
    generalize hfn : (frameF l).length = fl at *
    have HFN := hide hfn
    clear hfn hf
    have hnc : (n : Int) ≤ (c : Int) := by omega
    go_enter Try.func3, Try.ntmps3
    go_wp2_with (first
      | (go_at_call 10; refine hfw.out.mono ?_; rintro e w1 ⟨hp, rfl⟩; unfold FewPost at hp; subst hp; rw [hd])
      | (refine wpList_append (o := ⟨some 14, _, _, _, _, _⟩) rfl (.tmp 12) (.tmp 13) 22 rfl str_ok Try.underlying22 hown0 rfl hr0 rfl (svs_one _) (by unfold maxLen; omega) (by omega) (by simp) ?_
         intro v1 w1 hown1 hb1 _ _
         rw [Nat.zero_add, List.nil_append] at hown1
         have hbw1 := hb0.trans hb1
         have hone : Reads (w1.alloc (.cells #[.string ⟨#[115, 112, 97, 114, 101]⟩] 9)) (w1.heap.size + 1) 1 (some ⟨w1.heap.size, 0, none⟩) 1 (svs [sSpare]) := Reads.one_new w1 _ _)
      | (refine wpList_append (o := ⟨some 16, _, _, _, _, _⟩) rfl (.tmp 14) (.tmp 15) 22 rfl str_ok Try.underlying22 (hown1.alloc _) rfl hone rfl (svs_one [sSpare]) (by unfold maxLen; omega) (by omega) (by have := hbw1.size; simp; omega) ?_
         intro v2 w2 hown2 hb2 _ _
         have hbw2 : Below w.heap.size w w2 := (hbw1.alloc hbw1.size _).trans hb2
         obtain ⟨g, cg, rfl, hcg1, hcg2, hg1, hg2⟩ := own_form hown2 (by omega)
         have hrm := (Reads.of_own hown2).head (m := n) (by omega)
         have hmt : (svs l ++ svs [sSpare]).take n = svs l := by rw [List.take_append_of_le_length (by rw [svs_length, hl.out]; exact Nat.le_refl _), List.take_of_length_le (by rw [svs_length, hl.out]; exact Nat.le_refl _)]
         rw [hmt] at hrm
         clear hmt
         obtain ⟨b', o', u', e1, _, hu', hcs⟩ := (Reads.of_own hown2).at_ (k := n) (by omega)
         obtain ⟨rfl, rfl⟩ : g = b' ∧ 0 = o' := by simpa using e1
         have huv : u' = .string ⟨#[115, 112, 97, 114, 101]⟩ := by
           rw [List.getElem?_append_right (by rw [svs_length, hl.out]; exact Nat.le_refl _), svs_length, hl.out, Nat.sub_self] at hu'
           have := hu'.symm
           simpa [svs, sSpare] using this
         subst huv
         clear hu' e1
         have hncg : (n : Int) ≤ (cg : Int) := by omega
         have hn1cg : (n : Int) + 1 ≤ (cg : Int) := by omega)
      | (go_at_call 12
         go_must (
         refine (put_any _ n cg l w2 hrm hs HSZ.out).mono ?_
         rintro e w3 ⟨v3, rfl, ho3, hb3⟩
         rw [HFN.out] at ho3
         obtain ⟨A3, c3, rfl, hc31, hc32⟩ := own_slice ho3
         have hbw3 := hbw2.trans (hb3.mono hbw2.size)
         have hrm3 := (hrm.below hb3).more hb3.size
         have hcs3 := (hb3.cell (p := ⟨g, 0 + n, none⟩) hg2).trans hcs
         have hg3 : g < w3.heap.size := Nat.lt_of_lt_of_le hg2 hb3.size
         have hr3 := (hr.below hbw3).more hbw3.size))
      | (go_at_call 13
         go_must (
         refine (rput_any A n c l w3 hr3 hs HSZ.out).mono ?_
         rintro e w4 ⟨v4, rfl, ho4, hb4⟩
         rw [HFN.out] at ho4
         obtain ⟨A4, c4, rfl, hc41, hc42⟩ := own_slice ho4
         have hbw4 := hbw3.trans (hb4.mono hbw3.size)
         have hrm4 := (hrm3.below hb4).more hb4.size
         have hcs4 := (hb4.cell (p := ⟨g, 0 + n, none⟩) hg3).trans hcs3
         have hr4 := (hr3.below hb4).more hb4.size
         have hg4 : g < w4.heap.size := Nat.lt_of_lt_of_le hg3 hb4.size
         have hcv1 := run_bytes_str (P := Try.prog) 25 9 5 Try.underlying25 Try.underlying5 Try.underlying9 (Reads.of_own (own_below ho3 hb4)) c3
         have hcv2 := run_bytes_str (P := Try.prog) 25 9 5 Try.underlying25 Try.underlying5 Try.underlying9 (Reads.of_own ho4) c4
         rw [HS.out] at hcv1 hcv2))
      | (go_at_call 14; refine (num_any 0 _).mono ?_; rintro e w2' ⟨rfl, rfl⟩)
      | (go_at_call 15
         go_must (
         refine (size_any _ n cg l w4 hrm4 hs).mono ?_
         rintro e w5 ⟨rfl, hb5⟩
         rw [HSF.out]
         have hbw5 := hbw4.trans (hb5.mono hbw4.size)
         have hrm5 := (hrm4.below hb5).more hb5.size
         have hcs5 := (hb5.cell (p := ⟨g, 0 + n, none⟩) hg4).trans hcs4
         have hr5 := (hr4.below hb5).more hb5.size
         have hg5 : g < w5.heap.size := Nat.lt_of_lt_of_le hg4 hb5.size))
      | (go_at_call 16
         go_must (
         refine (rone_any _ n cg A n c l l w5 hrm5 hr5 (by omega)).mono ?_
         rintro e w6 ⟨rfl, m6, hw6⟩
         rw [show decide (l = l) = true from by simp]
         have hb6 : Below w5.heap.size w5 w6 := by rw [hw6]; exact below_drewN (Below.refl _ _) _
         have hcs6 := (hb6.cell (p := ⟨g, 0 + n, none⟩) hg5).trans hcs5
         rw [Nat.zero_add] at hcs6
         have hbw6 := hbw5.trans (hb6.mono hbw5.size)
         clear hw6))
      | (go_at_call 11; refine (works_any _).mono ?_; rintro e w7 ⟨rfl, hb7⟩)
      | fail)
    go_ret
    exact ⟨ret_bool rfl, hbw6.trans (hb7.mono hbw6.size)⟩
end Go.Proofs.Ytbpodmgogokpiaa
