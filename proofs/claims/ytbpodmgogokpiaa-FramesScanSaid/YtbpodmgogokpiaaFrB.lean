/- The walks of the document's Size and One; of four, sum, slices.Grow and slices.Concat. Conditions: those of each theorem. -/
import Derived.Test.YtbpodmgogokpiaaFrA
import Derived.Test.YtbpodmgogokpiaaSumsB
import Derived.Test.YtbpodmgogokpiaaRefA
import Derived.Lib.AppendStr
namespace Go.Proofs.Ytbpodmgogokpiaa
open Go.RowKit
set_option linter.unusedVariables false

theorem fsum_le (l : List ByteArray) {t : Nat} : ∀ {u : Nat}, t ≤ u → fsum l t ≤ fsum l u
  | 0, h => by obtain rfl : t = 0 := by omega
               exact Nat.le_refl _
  | u + 1, h => by
    rcases Nat.lt_or_ge t (u + 1) with h1 | h1
    · exact Nat.le_trans (fsum_le l (by omega)) (fsum_mono l u)
    · obtain rfl : t = u + 1 := by omega
      exact Nat.le_refl _

theorem rsize_long (A : Option Addr) (n c : Nat) (w : World) (hn : 65536 < n) :
    Calls Try.prog 28 #[.slice A n c] w fun e w' => e = .returned (.int .i64 0) ∧ w = w' := by
  have hI : (65536 : Int) < (n : Int) := by omega
  go_enter Try.func28, Try.ntmps28
  go_wp2_with fail
  go_ret
  exact ⟨rfl, rfl⟩

set_option maxHeartbeats 1000000 in
theorem rsize_any (A : Option Addr) (n c : Nat) (l : List ByteArray) (w : World) {B : Nat} (hr : Reads w B 1 A n (svs l)) (hs : ∀ s ∈ l, s.size ≤ 140737488351232) :
    Calls Try.prog 28 #[.slice A n c] w fun e w' => e = .returned (.int .i64 (sizeF l)) ∧ w = w' := by
  have hl := hide hr.slen
  by_cases hn : n ≤ 65536
  case neg =>
    refine (rsize_long A n c w (by omega)).mono ?_
    rintro e w' ⟨rfl, rfl⟩
    refine ⟨ret_int ?_, rfl⟩
    unfold sizeF
    rw [if_neg (by rw [hl.out]; omega)]
    rfl
  case pos =>
    have hI : ¬ (65536 : Int) < (n : Int) := by omega
    go_enter Try.func28, Try.ntmps28
    go_wp2_with fail
    go_loopw [3, 4] (fun a i wr => ∃ t : Nat, t ≤ n ∧ i = .int .i64 t ∧ a = .int .i64 (fsum l t) ∧ fsum l t ≤ 1048576 ∧ wr = w) (fun _ i _ => n - (intOf i).toNat)
    case atStart => exact ⟨0, by omega, rfl, by rw [fsum_zero]; rfl, by rw [fsum_zero]; decide, rfl⟩
    case round =>
      obtain ⟨t, ht, rfl, rfl, hle, rfl⟩ := hrel
      by_cases htn : t < n
      · have htI : (t : Int) < (n : Int) := by omega
        obtain ⟨b, o, s, rfl, hb, hls, hcell⟩ := hr.text htn
        have hw2 : IntKind.i64.wrap ((t : Int) + 1) = (t : Int) + 1 := IntWalk.i64_in _ (by omega)
        have hsz := hs s (List.mem_of_getElem? hls)
        have HS := hide (fsum_succ hls)
        have HM := hide (fsum_le l (t := t + 1) (u := n) (by omega))
        generalize hfa : fsum l t = a at *
        have HFA := hide hfa
        clear hfa
        have hno : 1048576 < fsum l (t + 1) → sizeF l = 0 := fun h => by
          unfold sizeF
          rw [if_neg (by rw [hl.out]; have := HM.out; omega)]
        have HNO := hide hno
        clear hno hls
        by_cases h1 : 1048576 < s.size
        · have h1I : (1048576 : Int) < (s.size : Int) := by omega
          go_wp2_with fail
          go_ret
          exact ⟨ret_int (by rw [HNO.out (by rw [HS.out]; omega)]; rfl), rfl⟩
        · have h1I : ¬ (1048576 : Int) < (s.size : Int) := by omega
          by_cases h2 : 1048576 < a + 4 + s.size
          · have h2I : (1048576 : Int) < (a : Int) + 4 + (s.size : Int) := by omega
            go_wp2_with fail
            go_ret
            exact ⟨ret_int (by rw [HNO.out (by rw [HS.out]; omega)]; rfl), rfl⟩
          · have h2I : ¬ (1048576 : Int) < (a : Int) + 4 + (s.size : Int) := by omega
            go_wp2_with fail
            go_roundw
            case rel => exact ⟨t + 1, by omega, by simp, by rw [HS.out]; simp, by rw [HS.out]; omega, trivial⟩
            case measure => simp [intOf]; omega
      · have htI : ¬ (t : Int) < (n : Int) := by omega
        obtain rfl : t = n := by omega
        go_wp2_with fail
        go_ret
        refine ⟨ret_int ?_, rfl⟩
        unfold sizeF
        rw [if_pos (by rw [hl.out]; exact ⟨hn, hle⟩), hl.out]
        omega

theorem bytes_ne {s t : ByteArray} (h : s ≠ t) : (s.toList == t.toList) = false := by
  rw [ByteArray.toList_eq, ByteArray.toList_eq]
  cases he : s.data.toList == t.data.toList with
  | false => rfl
  | true =>
    exact absurd (ByteArray.ext (Array.ext' (by simpa using he))) h

set_option maxHeartbeats 1000000 in
theorem rone_any (A : Option Addr) (n c : Nat) (A' : Option Addr) (n' c' : Nat) (l l' : List ByteArray) (w : World) {B B' : Nat} (hr : Reads w B 1 A n (svs l)) (hr' : Reads w B' 1 A' n' (svs l')) (hn : n ≤ 200000) :
    Calls Try.prog 16 #[.slice A n c, .slice A' n' c'] w fun e w' => e = .returned (.bool (decide (l = l'))) ∧ ∃ m, w' = w.drewN m := by
  have hl := hide hr.slen
  have hl' := hide hr'.slen
  by_cases hnn : n = n'
  case neg =>
    have h1 : ((n : Int) != (n' : Int)) = true := by simp; omega
    have hd : decide (l = l') = false := by
      rw [decide_eq_false_iff_not]
      intro h
      exact hnn (by rw [← hl.out, ← hl'.out, h])
    rw [hd]
    go_enter Try.func16, Try.ntmps16
    go_wp2_with fail
    go_ret
    exact ⟨rfl, 0, rfl⟩
  case pos =>
    subst hnn
    go_enter Try.func16, Try.ntmps16
    go_wp2_with fail
    go_loopw [5] (fun i wr => ∃ t : Nat, t ≤ n ∧ i = .int .i64 t ∧ l.take t = l'.take t ∧ ∃ m, wr = w.drewN m) (fun i _ => n - (intOf i).toNat)
    case atStart => exact ⟨0, by omega, rfl, rfl, 0, rfl⟩
    case round =>
      obtain ⟨t, ht, rfl, htk, m, rfl⟩ := hrel
      have HT := hide htk
      clear htk
      by_cases htn : t < n
      · have htI : (t : Int) < (n : Int) := by omega
        have ht0 : (0 : Int) ≤ (t : Int) := by omega
        obtain ⟨b1, o1, s1, rfl, hb1, hs1, hc1⟩ := (hr.drewN m).text htn
        obtain ⟨b2, o2, s2, rfl, hb2, hs2, hc2⟩ := (hr'.drewN m).text htn
        have hw2 : IntKind.i64.wrap ((t : Int) + 1) = (t : Int) + 1 := IntWalk.i64_in _ (by omega)
        by_cases hss : s1 = s2
        · subst hss
          have HT2 : Hid (l.take (t + 1) = l'.take (t + 1)) := by
            show _ = _
            rw [take_snoc0 hs1, take_snoc0 hs2, HT.out]
          clear hs1 hs2
          obtain ⟨wd, hwd⟩ : ∃ wd, w.drewN m = wd := ⟨_, rfl⟩
          have HWD := hide hwd
          rw [hwd] at hc1 hc2 ⊢
          clear hwd
          go_wp2_with fail
          go_quiet (fail)
          go_wp2_with fail
          go_roundw
          case rel => exact ⟨t + 1, by omega, by simp, HT2.out, _, by rw [← HWD.out, World.drewN_drewN]⟩
          case measure => simp [intOf]; omega
        · have hne := bytes_ne hss
          have hd : decide (l = l') = false := by
            rw [decide_eq_false_iff_not]
            rintro rfl
            rw [hs1] at hs2
            exact hss (Option.some.inj hs2)
          have HD := hide hd
          clear hs1 hs2 hss hd
          obtain ⟨wd, hwd⟩ : ∃ wd, w.drewN m = wd := ⟨_, rfl⟩
          have HWD := hide hwd
          rw [hwd] at hc1 hc2 ⊢
          clear hwd
          go_wp2_with fail
          go_quiet (fail)
          go_wp2_with fail
          go_ret
          exact ⟨ret_bool HD.out.symm, _, by rw [← HWD.out, World.drewN_drewN]⟩
      · have htI : ¬ (t : Int) < (n : Int) := by omega
        obtain rfl : t = n := by omega
        have hd : decide (l = l') = true := by
          rw [decide_eq_true_iff]
          have := HT.out
          rwa [List.take_of_length_le (by rw [hl.out]; omega), List.take_of_length_le (by rw [hl'.out]; omega)] at this
        have HD := hide hd
        clear hd
        go_wp2_with fail
        go_ret
        exact ⟨ret_bool HD.out.symm, m, rfl⟩

/-! rows of the call's own -/
theorem own_made0 {w : World} {base g c : Nat} {e : TypeId} {cs : Array Value} (h : Blk w g e cs) (hg : base ≤ g) (hc : cs.size = c) (hm : c ≤ maxLen) : w.ownsRow base e 1 (.slice (some ⟨g, 0, none⟩) 0 c) 0 [] :=
  ⟨rfl, .inr ⟨g, c, cs, rfl, hg, h, Nat.zero_le _, hm, by rw [hc, Nat.mul_one], rfl⟩⟩
theorem own_cut0 {w : World} {base g n c : Nat} {e : TypeId} {xs : List Value} (h : w.ownsRow base e 1 (.slice (some ⟨g, 0, none⟩) n c) n xs) : w.ownsRow base e 1 (.slice (some ⟨g, 0, none⟩) 0 c) 0 [] := by
  rcases h.2 with ⟨h2, _⟩ | ⟨g', cap, cur, hv, hb, hg, h1, h2, h3, _⟩
  · cases h2
  · cases hv
    exact ⟨rfl, .inr ⟨g, c, cur, rfl, hb, hg, Nat.zero_le _, h2, h3, rfl⟩⟩
theorem le4_reads {w : World} {g t B : Nat} (k : Nat) (h : Blk w g t (bvs (le4 k)).toArray) (hB : g < B) : Reads w B 1 (some ⟨g, 0, none⟩) 4 (bvs (le4 k)) := by
  have := h.reads (n := B) (k := 0) (m := 4) hB (by simp [bvs, le4])
  rw [List.drop_zero, List.take_of_length_le (by simp [bvs, le4])] at this
  exact this
theorem le4_length (k : Nat) : (le4 k).length = 4 := rfl

theorem four_any {base : Nat} (v : Value) (n : Nat) (l : List UInt8) (k : Nat) (w : World) (hown : w.ownsRow base 5 1 v n (bvs l)) (hb : base ≤ w.heap.size) (hn : n ≤ 100000000) (hk : k < 4294967296) :
    Calls Try.prog 24 #[v, .int .i64 k] w fun e w' => ∃ v', e = .returned v' ∧ w'.ownsRow base 5 1 v' (n + 4) (bvs (l ++ le4 k)) ∧ Below base w w' := by
  obtain ⟨A, cap, rfl, hc1, hc2⟩ := own_slice hown
  have hw : IntKind.u32.wrap (k : Int) = (k : Int) := by rw [IntKind.wrap_u32]; omega
  go_enter Try.func24, Try.ntmps24
  go_wp2_with (first
    | (go_at_call 26
       go_must (
       refine (bytes_any k hk w).mono ?_
       rintro e w1 ⟨g, rfl, hg, hB1, hb1⟩
       have hr1 := le4_reads (B := w1.heap.size) k hB1 hB1.lt
       have hown1 := own_below hown hb1))
    | (at_builtin
       refine wpList_append rfl (.tmp 5) (.tmp 8) 25 rfl u8_ok Try.underlying25 hown1 rfl hr1 rfl (bvs_one _) (by unfold maxLen; omega) (by omega) (by have := hb1.size; omega) ?_
       intro v2 w2 hown2 hb2 _ _
       rw [← bvs_append] at hown2)
    | fail)
  go_ret
  exact ⟨_, rfl, hown2, (hb1.mono hb).trans hb2⟩

/-- the sum of a body with its length ahead -/
def sumF (l : List UInt8) : Nat := crcUpd (crcUpd 0 (le4 l.length)) l
theorem crcUpd_lt (s : Nat) (hs : s < 4294967296) (l : List UInt8) : crcUpd s l < 4294967296 := by
  unfold crcUpd
  exact Nat.xor_lt_two_pow (n := 32) (crcRun_lt l _ (Nat.xor_lt_two_pow (n := 32) hs (by decide))) (by decide)
theorem sum_any (A : Option Addr) (n c : Nat) (l : List UInt8) (w : World) (hr : Reads w w.heap.size 1 A n (bvs l)) (hn : n ≤ 100000000) :
    Calls Try.prog 27 #[.slice A n c] w fun e w' => e = .returned (.int .u32 (sumF l)) ∧ Below w.heap.size w w' := by
  have hl := hr.blen
  have HP : Hid (sumF l = crcUpd (crcUpd 0 (le4 n)) l) := by show _ = _; unfold sumF; rw [hl]
  have hlt := crcUpd_lt 0 (by decide) (le4 n)
  clear hl
  go_enter Try.func27, Try.ntmps27
  go_wp2_with (first
    | (go_at_call 24
       go_must (
       refine (four_any (base := w.heap.size) (.slice none 0 0) 0 [] n w (World.ownsRow_nil _ _ _ _) (Nat.le_refl _) (by omega) (by omega)).mono ?_
       rintro e w1 ⟨v1, rfl, hown1, hb1⟩
       rw [Nat.zero_add, List.nil_append] at hown1
       obtain ⟨A1, c1, rfl, hc11, hc12⟩ := own_slice hown1
       have hr1 := Reads.of_own hown1))
    | (go_at_call 44
       go_must (
       refine (crc_any _ _ _ _ w1 hr1 (by decide)).mono ?_
       rintro e w2 ⟨rfl, hb2⟩
       have hbw2 := hb1.trans (hb2.mono hb1.size)
       have hr2 := (hr.below hbw2).more hbw2.size))
    | (go_at_call 43
       go_must (
       refine (update_any _ hlt _ _ _ _ w2 hr2 (by unfold maxLen; omega)).mono ?_
       rintro e w3 ⟨rfl, hb3⟩
       have hbw3 := hbw2.trans (hb3.mono hbw2.size)))
    | fail)
  go_ret
  exact ⟨by rw [HP.out]; rfl, hbw3⟩
end Go.Proofs.Ytbpodmgogokpiaa
