/- The walk of the law SumsUnlike: it returns true at every input. -/
import Derived.Test.YtiheldbiaamabaaWorks
import Derived.Test.YtiheldbiaamabaaSumsB
import Derived.Test.YtiheldbiaamabaaPlain
import Derived.Test.YtiheldbiaamabaaLawC
namespace Go.Proofs.Ytiheldbiaamabaa
open Go.RowKit
set_option linter.unusedVariables false

theorem bstr_inj {l m : List UInt8} (h : (⟨l.toArray⟩ : ByteArray) = ⟨m.toArray⟩) : l = m := by
  injection h with h
  simpa using h
theorem le4_reads' {w : World} {g t : Nat} (s : Nat) (h : Blk w g t (bvs (le4 s)).toArray) : Reads w (g + 1) 1 (some ⟨g, 0, none⟩) 4 (bvs (le4 s)) := by
  have := h.reads (n := g + 1) (k := 0) (m := 4) (by omega) (by simp [bvs_length, le4])
  rw [List.drop_zero] at this
  simpa [List.take_of_length_le, bvs_length, le4] using this

theorem own_below {w w' : World} {base : Nat} {e : TypeId} {size : Nat} {v : Value} {n : Nat} {xs : List Value} (h : w.ownsRow base e size v n xs) (hb : Below w.heap.size w w') : w'.ownsRow base e size v n xs := by
  obtain ⟨h1, h2⟩ := h
  refine ⟨h1, ?_⟩
  rcases h2 with h2 | ⟨g, cap, cur, a, b, c, d⟩
  · exact .inl h2
  · exact .inr ⟨g, cap, cur, a, b, (hb.block g (Array.getElem?_eq_some_iff.1 c).1).trans c, d⟩

set_option maxHeartbeats 1000000 in
theorem sumsUnlike_any (A : Option Addr) (n c : Nat) (l : List UInt8) (A' : Option Addr) (n' c' : Nat) (l' : List UInt8) (w : World) (hr : Reads w w.heap.size 1 A n (bvs l)) (hm : n ≤ maxLen)
    (hr' : Reads w w.heap.size 1 A' n' (bvs l')) (hm' : n' ≤ maxLen) :
    Calls Try.prog 11 #[.slice A n c, .slice A' n' c'] w fun e w' => e = .returned (.bool true) ∧ Below w.heap.size w w' := by
  by_cases hn : n ≤ 3000
  · have hnI : ¬ (3000 : Int) < (n : Int) := by omega
    by_cases hn' : n' ≤ 3000
    · have hnI' : ¬ (3000 : Int) < (n' : Int) := by omega
      have hl := hide hr.blen
      have hl' := hide hr'.blen
      have hpos := padded_pos l
      have hpos' := padded_pos l'
      have hcx := run_bytes_str (P := Try.prog) 22 9 5 Try.underlying22 Try.underlying5 Try.underlying9 hr c
      go_enter Try.func11, Try.ntmps11
      go_wp2_with (first
        | (go_at_call_of 24 (Value.slice A n c)
           go_loud (
           refine (pad_any A n c l w hr (by omega)).mono ?_
           rintro e w1 ⟨v1, rfl, hown1, hb1⟩
           obtain ⟨g1, cap1, rfl, hcap1, hcm1, hg1, hgl1, hrd1⟩ := own_reads hown1 hpos
           have hr1 := (hr.below hb1).more hb1.size
           have hr1' := (hr'.below hb1).more hb1.size
           generalize hN : (padded l).length = N at *))
        | (go_at_call_of 24 (Value.slice A' n' c')
           go_loud (
           refine (pad_any A' n' c' l' w1 hr1' (by omega)).mono ?_
           rintro e w2 ⟨v2, rfl, hown2, hb2⟩
           obtain ⟨g2, cap2, rfl, hcap2, hcm2, hg2, hgl2, hrd2⟩ := own_reads hown2 hpos'
           have hrA := (hr1.below hb2).more hb2.size
           have hrB := (hr1'.below hb2).more hb2.size
           have hbw := hb1.trans (hb2.mono hb1.size)
           generalize hN' : (padded l').length = N' at *
           have hc1 := run_bytes_str (P := Try.prog) 22 9 5 Try.underlying22 Try.underlying5 Try.underlying9 (hrd1.below hb2) cap1
           have hc2 := run_bytes_str (P := Try.prog) 22 9 5 Try.underlying22 Try.underlying5 Try.underlying9 hrd2 cap2
           have hc3 := run_bytes_str (P := Try.prog) 22 9 5 Try.underlying22 Try.underlying5 Try.underlying9 hrA c
           have hc4 := run_bytes_str (P := Try.prog) 22 9 5 Try.underlying22 Try.underlying5 Try.underlying9 hrB c'
           have hiff : ((⟨(padded l).toArray⟩ : ByteArray).toList == (⟨(padded l').toArray⟩ : ByteArray).toList) = ((⟨l.toArray⟩ : ByteArray).toList == (⟨l'.toArray⟩ : ByteArray).toList) := by
             simp only [ByteArray.toList_mk]
             by_cases h : l = l'
             · rw [h, beq_self_eq_true, beq_self_eq_true]
             · rw [beq_eq_false_iff_ne.2 h, beq_eq_false_iff_ne.2 (fun e => h (padded_inj (by rw [hl.out]; omega) (by rw [hl'.out]; omega) e))]
           generalize (⟨(padded l).toArray⟩ : ByteArray) = S1 at hc1 hiff
           generalize (⟨(padded l').toArray⟩ : ByteArray) = S2 at hc2 hiff
           generalize (⟨l.toArray⟩ : ByteArray) = S3 at hc3 hiff
           generalize (⟨l'.toArray⟩ : ByteArray) = S4 at hc4 hiff
           clear hcx hrd1 hrd2 hown1 hown2 hr1 hr1'
           have hown0 : (w2.alloc (.cells #[] 5)).ownsRow w2.heap.size 5 1 (.slice (some ⟨w2.heap.size, 0, none⟩) 0 0) 0 [] := World.ownsRow_made w2 #[] 0 (Nat.le_refl _) (by decide) rfl
           have hr0 : Reads (w2.alloc (.cells #[] 5)) w2.heap.size 1 A n (bvs l) := hrA.alloc (Nat.le_refl _) _))
        | (at_builtin
           refine wpList_append rfl (.tmp 31) (.tmp 32) 22 rfl u8_ok Try.underlying22 hown0 rfl hr0 rfl (bvs_one l) (by unfold maxLen; omega) (by omega) (by simp) ?_
           intro v3 w3 hown3 hb3 _ _
           have hb23 : Below w2.heap.size w2 w3 := (((Below.refl _ w2).alloc (Nat.le_refl _) _).trans hb3)
           have hbw3 := hbw.trans (hb23.mono hbw.size)
           have hr3 := (hrA.below hb23).more hb23.size
           rw [Nat.zero_add, List.nil_append] at hown3)
        | (go_at_call_of 14 (Value.slice A n c)
           go_loud (
           refine (crc_any A n c l w3 hr3 hm).mono ?_
           rintro e w4 ⟨rfl, hb4⟩
           have hq : crcUpd 0 l < 4294967296 := by rw [crcUpd_ref]; exact Nat.xor_lt_two_pow (n := 32) (refRun_lt l _ (by decide)) (by decide)
           have hres := hide (residue l)
           generalize crcUpd 0 l = q at *
           have hown4 := own_below hown3 hb4
           have hbw4 := hbw3.trans (hb4.mono hbw3.size)))
        | (go_at_call 21
           go_loud (
           refine (bytes_any q hq w4).mono ?_
           rintro e w5 ⟨g5, rfl, hg5, hk5, hb5⟩
           have hrd5 := le4_reads' q hk5
           have hown5 := own_below hown4 hb5
           have hbw5 := hbw4.trans (hb5.mono hbw4.size)))
        | (at_builtin
           refine wpList_append rfl (.tmp 33) (.tmp 36) 22 rfl u8_ok Try.underlying22 hown5 rfl hrd5 rfl (bvs_one (le4 q)) (by unfold maxLen; omega) (by omega) (by have := hb23.size; have := hb4.size; have := hb5.size; omega) ?_
           intro v6 w6 hown6 hb6 _ _
           rw [← bvs_append] at hown6
           obtain ⟨g6, cap6, rfl, hcap6, hcm6, hg6, hgl6, hrd6⟩ := own_reads hown6 (by omega)
           have hbw6 := hbw5.trans (hb6.mono hbw.size))
        | (go_at_call 14
           go_loud (
           refine (crc_any _ _ _ _ w6 hrd6 (by unfold maxLen; omega)).mono ?_
           rintro e w7 ⟨rfl, hb7⟩
           rw [hres.out]
           have hbw7 := hbw6.trans (hb7.mono hbw6.size)))
        | (go_at_call 12
           go_loud (
           refine (works_any w7).mono ?_
           rintro e w8 ⟨rfl, hb8⟩
           have hbw8 := hbw7.trans (hb8.mono hbw7.size)))
        | fail)
      go_ret
      exact ⟨ret_bool rfl, hbw8⟩
    · have hnI' : (3000 : Int) < (n' : Int) := by omega
      go_enter Try.func11, Try.ntmps11
      go_wp2_with (first
        | (go_at_call 12; refine (works_any _).mono ?_; rintro e w1 ⟨rfl, hb1⟩))
      go_ret
      exact ⟨ret_bool rfl, hb1⟩
  · have hnI : (3000 : Int) < (n : Int) := by omega
    go_enter Try.func11, Try.ntmps11
    go_wp2_with (first
      | (go_at_call 12; refine (works_any _).mono ?_; rintro e w1 ⟨rfl, hb1⟩))
    go_ret
    exact ⟨ret_bool rfl, hb1⟩
end Go.Proofs.Ytiheldbiaamabaa
