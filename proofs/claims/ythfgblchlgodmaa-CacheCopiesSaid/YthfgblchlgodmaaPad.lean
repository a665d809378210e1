/- The walks of Pad, the program's and the document's. Conditions: at most 100000 bytes. -/
import Derived.Test.YthfgblchlgodmaaShaA
namespace Go.Proofs.Ythfgblchlgodmaa
open Go.RowKit
set_option linter.unusedVariables false

/-- eight bytes of a number, the highest first, k of them -/
def be8 (n : Nat) : List UInt8 := [UInt8.ofNat (n / 72057594037927936), UInt8.ofNat (n / 281474976710656), UInt8.ofNat (n / 1099511627776), UInt8.ofNat (n / 4294967296), UInt8.ofNat (n / 16777216), UInt8.ofNat (n / 65536), UInt8.ofNat (n / 256), UInt8.ofNat n]
def zerosOf (n : Nat) : Nat := (119 - n % 64) % 64
def padded (l : List UInt8) : List UInt8 := l ++ [128] ++ List.replicate (zerosOf l.length) 0 ++ be8 (l.length * 8)

theorem pad_base (l : List UInt8) (n N : Nat) (hl : l.length = n) (hN : N = n + 1 + zerosOf n) : padded l = (l ++ [128] ++ List.replicate (N - (n + 1)) 0) ++ be8 (n * 8) := by
  unfold padded
  rw [hl, hN, show n + 1 + zerosOf n - (n + 1) = zerosOf n by omega]
theorem byte_of (n k : Nat) : ((UInt8.ofNat (n / k)).toNat : Int) = ((n : Int) / (k : Int)) % 256 := by
  simp
set_option maxHeartbeats 1000000 in
theorem pad_any (A : Option Addr) (n c : Nat) (l : List UInt8) (w : World) (hr : Reads w w.heap.size 1 A n (bvs l)) (hn : n ≤ 100000) :
    Calls Try.prog 66 #[.slice A n c] w fun e w' => ∃ v, e = .returned v ∧ w'.ownsRow w.heap.size 5 1 v (padded l).length (bvs (padded l)) ∧ Below w.heap.size w w' := by
  have hl := hide hr.blen
  have hnI : (n : Int) ≤ 100000 := by omega
  have hn72 : Value.int .i64 ((n : Int) + 72) = .int .i64 ((n + 72 : Nat) : Int) := by simp
  have HN := hide hn72
  clear hn72
  go_enter Try.func66, Try.ntmps66
  go_wp2_with (first
    | (refine wpList_make rfl (.const (.int .i64 0)) (.tmp 8) 52 rfl u8_ok rfl Try.underlying52 (n := 0) (c := n + 72) rfl HN.out (by omega) (by omega) (by unfold maxLen; omega) ?_
       intro w1 hb1 hs1 _ hown1
       have hown1 := hown1 w.heap.size (Nat.le_refl _)
       have hr1 := hr.below hb1)
    | (at_builtin
       refine wpList_append rfl (.tmp 9) (.tmp 10) 52 rfl u8_ok Try.underlying52 hown1 rfl hr1 rfl (bvs_one l) (by unfold maxLen; omega) (by omega) hb1.size ?_
       intro v2 w2 hown2 hb2 _ _
       have hr2 := Reads.one_new w2 (.int .u8 128) 5)
    | (at_builtin
       refine wpList_append rfl (.tmp 11) (.tmp 12) 52 rfl u8_ok Try.underlying52 (hown2.alloc _) rfl hr2 rfl (bvs_one [128]) (by unfold maxLen; omega) (by omega) (by have := hb1.size; have := hb2.size; simp; omega) ?_
       intro v3 w3 hown3 hb3 _ _))
  obtain ⟨g3, cap3, rfl, hcap3, hcm3, hg3, hgl3⟩ := own_form hown3 (by omega)
  have hbw : Below w.heap.size w w3 := ((hb1.trans hb2).alloc (by have := hb1.size; have := hb2.size; omega) _).trans hb3
  have hrow : w3.ownsRow w.heap.size 5 1 (.slice (some ⟨g3, 0, none⟩) (0 + n + 1) cap3) (n + 1) (bvs (l ++ [128])) := by
    have h := hown3
    rw [Nat.zero_add] at h ⊢
    rw [bvs_append]; exact h
  rw [Nat.zero_add] at hrow
  simp only [Nat.zero_add]
  clear hown3 hb1 hb2 hb3 hown2 hown1 hr1 hr2 hs1 hg3 hgl3 hcap3
  go_loopw [3] (fun v wr => ∃ N g cap : Nat, n + 1 ≤ N ∧ N ≤ n + 1 + zerosOf n ∧ v = .slice (some ⟨g, 0, none⟩) N cap ∧ wr.ownsRow w.heap.size 5 1 v N (bvs (l ++ [128] ++ List.replicate (N - (n + 1)) 0)) ∧ Below w.heap.size w wr)
    (fun v _ => n + 1 + zerosOf n - lenOf v)
  case atStart => exact ⟨n + 1, g3, cap3, Nat.le_refl _, by omega, rfl, by simpa using hrow, hbw⟩
  case round =>
    clear hrow hbw
    obtain ⟨N, g, cap, hN1, hN2, rfl, hrow, hbw⟩ := hrel
    have hz : zerosOf n < 64 := Nat.mod_lt _ (by decide)
    have hand : bits .and .i64 (N : Int) 63 = ((N % 64 : Nat) : Int) := by
      rw [show (63 : Int) = ((63 : Nat) : Int) from rfl, i64_and_nat N 63 (by omega) (by decide), nat_mask6]
    by_cases hlt : N < n + 1 + zerosOf n
    · have hne : (((N % 64 : Nat) : Int) != 56) = true := by
        have h56 : N % 64 ≠ 56 := by unfold zerosOf at hlt; omega
        simp; omega
      generalize ((N % 64 : Nat) : Int) = q at *
      have hr5 := Reads.one_new wr (.int .u8 0) 5
      go_wp2_with (first
        | (at_builtin
           refine wpList_append rfl (.tmp 18) (.tmp 19) 52 rfl u8_ok Try.underlying52 (hrow.alloc _) rfl hr5 rfl (bvs_one [0]) (by unfold maxLen; omega) (by omega) (by have := hbw.size; simp; omega) ?_
           intro v5 w5 hown5 hb5 _ _
           obtain ⟨g5, cap5, rfl, _, _, _, _⟩ := own_form hown5 (by omega)))
      go_roundw
      case rel =>
        refine ⟨N + 1, g5, cap5, by omega, by omega, rfl, ?_, (hbw.alloc hbw.size _).trans hb5⟩
        rw [show N + 1 - (n + 1) = N - (n + 1) + 1 by omega, List.replicate_succ', ← List.append_assoc, bvs_append _ [0]]
        exact hown5
      case measure => simp [lenOf]; omega
    · have hNe : N = n + 1 + zerosOf n := by omega
      have hne : (((N % 64 : Nat) : Int) != 56) = false := by
        have h56 : N % 64 = 56 := by rw [hNe]; unfold zerosOf; omega
        simp; omega
      generalize ((N % 64 : Nat) : Int) = q at *
      have HNe := hide hNe
      clear hNe
      go_wp2_with fail
      have hpb := pad_base l n N hl.out HNe.out
      generalize l ++ [128] ++ List.replicate (N - (n + 1)) 0 = base at *
      have HPB := hide hpb
      clear hpb
      have hN3 : N ≤ 100065 := by have := HNe.out; omega
      clear hand hne hN2 hlt
      go_loopw [3, 5] (fun v s wr => ∃ k g cap : Nat, k ≤ 8 ∧ s = .int .i64 (56 - 8 * (k : Int)) ∧ v = .slice (some ⟨g, 0, none⟩) (N + k) cap ∧ wr.ownsRow w.heap.size 5 1 v (N + k) (bvs (base ++ (be8 (n * 8)).take k)) ∧ Below w.heap.size w wr)
        (fun v _ _ => N + 8 - lenOf v)
      case atStart => exact ⟨0, g, cap, by omega, rfl, rfl, by simpa using hrow, hbw⟩
      case round =>
        clear hrow hbw
        obtain ⟨k, g, cap, hk, rfl, rfl, hrow, hbw⟩ := hrel
        have hcase : k = 0 ∨ k = 1 ∨ k = 2 ∨ k = 3 ∨ k = 4 ∨ k = 5 ∨ k = 6 ∨ k = 7 ∨ k = 8 := by omega
        rcases hcase with rfl | rfl | rfl | rfl | rfl | rfl | rfl | rfl | rfl
        · have hbb : (n : Int) * 8 / 72057594037927936 = (((UInt8.ofNat (n * 8 / 72057594037927936)).toNat : Nat) : Int) := by simp; try omega
          have hr5 := Reads.one_byte wr hbb 5
          clear hbb
          go_wp2_with (first
            | (at_builtin
               refine wpList_append rfl (.tmp 29) (.tmp 34) 52 rfl u8_ok Try.underlying52 (hrow.alloc _) rfl hr5 rfl (bvs_one _) (by unfold maxLen; omega) (by omega) (by have := hbw.size; simp; omega) ?_
               intro v5 w5 hown5 hb5 _ _
               obtain ⟨g5, cap5, rfl, _, _, _, _⟩ := own_form hown5 (by omega)))
          go_roundw
          case rel =>
            refine ⟨1, g5, cap5, by omega, rfl, rfl, ?_, (hbw.alloc hbw.size _).trans hb5⟩
            rw [show (be8 (n * 8)).take 1 = (be8 (n * 8)).take 0 ++ [UInt8.ofNat (n * 8 / 72057594037927936)] from rfl, ← List.append_assoc, bvs_append _ [_]]
            exact hown5
          case measure => simp [lenOf]; try omega
        · have hbb : (n : Int) * 8 / 281474976710656 = (((UInt8.ofNat (n * 8 / 281474976710656)).toNat : Nat) : Int) := by simp; try omega
          have hr5 := Reads.one_byte wr hbb 5
          clear hbb
          go_wp2_with (first
            | (at_builtin
               refine wpList_append rfl (.tmp 29) (.tmp 34) 52 rfl u8_ok Try.underlying52 (hrow.alloc _) rfl hr5 rfl (bvs_one _) (by unfold maxLen; omega) (by omega) (by have := hbw.size; simp; omega) ?_
               intro v5 w5 hown5 hb5 _ _
               obtain ⟨g5, cap5, rfl, _, _, _, _⟩ := own_form hown5 (by omega)))
          go_roundw
          case rel =>
            refine ⟨2, g5, cap5, by omega, rfl, rfl, ?_, (hbw.alloc hbw.size _).trans hb5⟩
            rw [show (be8 (n * 8)).take 2 = (be8 (n * 8)).take 1 ++ [UInt8.ofNat (n * 8 / 281474976710656)] from rfl, ← List.append_assoc, bvs_append _ [_]]
            exact hown5
          case measure => simp [lenOf]; try omega
        · have hbb : (n : Int) * 8 / 1099511627776 = (((UInt8.ofNat (n * 8 / 1099511627776)).toNat : Nat) : Int) := by simp; try omega
          have hr5 := Reads.one_byte wr hbb 5
          clear hbb
          go_wp2_with (first
            | (at_builtin
               refine wpList_append rfl (.tmp 29) (.tmp 34) 52 rfl u8_ok Try.underlying52 (hrow.alloc _) rfl hr5 rfl (bvs_one _) (by unfold maxLen; omega) (by omega) (by have := hbw.size; simp; omega) ?_
               intro v5 w5 hown5 hb5 _ _
               obtain ⟨g5, cap5, rfl, _, _, _, _⟩ := own_form hown5 (by omega)))
          go_roundw
          case rel =>
            refine ⟨3, g5, cap5, by omega, rfl, rfl, ?_, (hbw.alloc hbw.size _).trans hb5⟩
            rw [show (be8 (n * 8)).take 3 = (be8 (n * 8)).take 2 ++ [UInt8.ofNat (n * 8 / 1099511627776)] from rfl, ← List.append_assoc, bvs_append _ [_]]
            exact hown5
          case measure => simp [lenOf]; try omega
        · have hbb : (n : Int) * 8 / 4294967296 = (((UInt8.ofNat (n * 8 / 4294967296)).toNat : Nat) : Int) := by simp; try omega
          have hr5 := Reads.one_byte wr hbb 5
          clear hbb
          go_wp2_with (first
            | (at_builtin
               refine wpList_append rfl (.tmp 29) (.tmp 34) 52 rfl u8_ok Try.underlying52 (hrow.alloc _) rfl hr5 rfl (bvs_one _) (by unfold maxLen; omega) (by omega) (by have := hbw.size; simp; omega) ?_
               intro v5 w5 hown5 hb5 _ _
               obtain ⟨g5, cap5, rfl, _, _, _, _⟩ := own_form hown5 (by omega)))
          go_roundw
          case rel =>
            refine ⟨4, g5, cap5, by omega, rfl, rfl, ?_, (hbw.alloc hbw.size _).trans hb5⟩
            rw [show (be8 (n * 8)).take 4 = (be8 (n * 8)).take 3 ++ [UInt8.ofNat (n * 8 / 4294967296)] from rfl, ← List.append_assoc, bvs_append _ [_]]
            exact hown5
          case measure => simp [lenOf]; try omega
        · have hbb : (n : Int) * 8 / 16777216 = (((UInt8.ofNat (n * 8 / 16777216)).toNat : Nat) : Int) := by simp; try omega
          have hr5 := Reads.one_byte wr hbb 5
          clear hbb
          go_wp2_with (first
            | (at_builtin
               refine wpList_append rfl (.tmp 29) (.tmp 34) 52 rfl u8_ok Try.underlying52 (hrow.alloc _) rfl hr5 rfl (bvs_one _) (by unfold maxLen; omega) (by omega) (by have := hbw.size; simp; omega) ?_
               intro v5 w5 hown5 hb5 _ _
               obtain ⟨g5, cap5, rfl, _, _, _, _⟩ := own_form hown5 (by omega)))
          go_roundw
          case rel =>
            refine ⟨5, g5, cap5, by omega, rfl, rfl, ?_, (hbw.alloc hbw.size _).trans hb5⟩
            rw [show (be8 (n * 8)).take 5 = (be8 (n * 8)).take 4 ++ [UInt8.ofNat (n * 8 / 16777216)] from rfl, ← List.append_assoc, bvs_append _ [_]]
            exact hown5
          case measure => simp [lenOf]; try omega
        · have hbb : (n : Int) * 8 / 65536 = (((UInt8.ofNat (n * 8 / 65536)).toNat : Nat) : Int) := by simp; try omega
          have hr5 := Reads.one_byte wr hbb 5
          clear hbb
          go_wp2_with (first
            | (at_builtin
               refine wpList_append rfl (.tmp 29) (.tmp 34) 52 rfl u8_ok Try.underlying52 (hrow.alloc _) rfl hr5 rfl (bvs_one _) (by unfold maxLen; omega) (by omega) (by have := hbw.size; simp; omega) ?_
               intro v5 w5 hown5 hb5 _ _
               obtain ⟨g5, cap5, rfl, _, _, _, _⟩ := own_form hown5 (by omega)))
          go_roundw
          case rel =>
            refine ⟨6, g5, cap5, by omega, rfl, rfl, ?_, (hbw.alloc hbw.size _).trans hb5⟩
            rw [show (be8 (n * 8)).take 6 = (be8 (n * 8)).take 5 ++ [UInt8.ofNat (n * 8 / 65536)] from rfl, ← List.append_assoc, bvs_append _ [_]]
            exact hown5
          case measure => simp [lenOf]; try omega
        · have hbb : (n : Int) * 8 / 256 % 256 = (((UInt8.ofNat (n * 8 / 256)).toNat : Nat) : Int) := by simp; try omega
          have hr5 := Reads.one_byte wr hbb 5
          clear hbb
          go_wp2_with (first
            | (at_builtin
               refine wpList_append rfl (.tmp 29) (.tmp 34) 52 rfl u8_ok Try.underlying52 (hrow.alloc _) rfl hr5 rfl (bvs_one _) (by unfold maxLen; omega) (by omega) (by have := hbw.size; simp; omega) ?_
               intro v5 w5 hown5 hb5 _ _
               obtain ⟨g5, cap5, rfl, _, _, _, _⟩ := own_form hown5 (by omega)))
          go_roundw
          case rel =>
            refine ⟨7, g5, cap5, by omega, rfl, rfl, ?_, (hbw.alloc hbw.size _).trans hb5⟩
            rw [show (be8 (n * 8)).take 7 = (be8 (n * 8)).take 6 ++ [UInt8.ofNat (n * 8 / 256)] from rfl, ← List.append_assoc, bvs_append _ [_]]
            exact hown5
          case measure => simp [lenOf]; try omega
        · have hbb : (n : Int) * 8 % 256 = (((UInt8.ofNat (n * 8)).toNat : Nat) : Int) := by simp; try omega
          have hr5 := Reads.one_byte wr hbb 5
          clear hbb
          go_wp2_with (first
            | (at_builtin
               refine wpList_append rfl (.tmp 29) (.tmp 34) 52 rfl u8_ok Try.underlying52 (hrow.alloc _) rfl hr5 rfl (bvs_one _) (by unfold maxLen; omega) (by omega) (by have := hbw.size; simp; omega) ?_
               intro v5 w5 hown5 hb5 _ _
               obtain ⟨g5, cap5, rfl, _, _, _, _⟩ := own_form hown5 (by omega)))
          go_roundw
          case rel =>
            refine ⟨8, g5, cap5, by omega, rfl, rfl, ?_, (hbw.alloc hbw.size _).trans hb5⟩
            rw [show (be8 (n * 8)).take 8 = (be8 (n * 8)).take 7 ++ [UInt8.ofNat (n * 8)] from rfl, ← List.append_assoc, bvs_append _ [_]]
            exact hown5
          case measure => simp [lenOf]; try omega
        · go_wp2_with fail
          go_ret
          have hpl : (padded l).length = N + 8 := by
            have := hrow.1
            rw [bvs_length] at this
            rw [HPB.out]; simpa [be8] using this
          refine ⟨_, rfl, ?_, hbw⟩
          rw [hpl, HPB.out]
          exact hrow

theorem low_byte (m : Nat) (hm : m < 18446744073709551616) {a : Int} (ha : a = (m : Int)) : ∃ b : UInt8, b = UInt8.ofNat m ∧ bits .and .u64 a 255 = (b.toNat : Int) ∧ (b.toNat : Int) % 256 = (b.toNat : Int) := by
  refine ⟨UInt8.ofNat m, rfl, ?_, ?_⟩
  · rw [(and64 (b := 255) (y := 255) ha rfl hm (by decide)).1, nat_mask8]
    simp
  · have := (UInt8.ofNat m).toNat_lt; omega

set_option maxHeartbeats 1000000 in
theorem rpad_any (A : Option Addr) (n c : Nat) (l : List UInt8) (w : World) (hr : Reads w w.heap.size 1 A n (bvs l)) (hn : n ≤ 100000) :
    Calls Try.prog 53 #[.slice A n c] w fun e w' => ∃ v, e = .returned v ∧ w'.ownsRow w.heap.size 5 1 v (padded l).length (bvs (padded l)) ∧ Below w.heap.size w w' := by
  have hl := hide hr.blen
  have hnI : (n : Int) ≤ 100000 := by omega
  have hown0 : (w.alloc (.cells #[] 5)).ownsRow w.heap.size 5 1 (.slice (some ⟨w.heap.size, 0, none⟩) 0 0) 0 [] := World.ownsRow_made w #[] 0 (Nat.le_refl _) (by decide) rfl
  have hr0 : Reads (w.alloc (.cells #[] 5)) w.heap.size 1 A n (bvs l) := hr.alloc (Nat.le_refl _) _
  go_enter Try.func53, Try.ntmps53
  go_wp2_with (first
    | (at_builtin
       refine wpList_append rfl (.tmp 6) (.tmp 7) 52 rfl u8_ok Try.underlying52 hown0 rfl hr0 rfl (bvs_one l) (by unfold maxLen; omega) (by omega) (by simp) ?_
       intro v2 w2 hown2 hb2 _ _
       have hr2 := Reads.one_new w2 (.int .u8 128) 5)
    | (at_builtin
       refine wpList_append rfl (.tmp 8) (.tmp 9) 52 rfl u8_ok Try.underlying52 (hown2.alloc _) rfl hr2 rfl (bvs_one [128]) (by unfold maxLen; omega) (by omega) (by have := hb2.size; simp at this; simp; omega) ?_
       intro v3 w3 hown3 hb3 _ _))
  obtain ⟨g3, cap3, rfl, hcap3, hcm3, hg3, hgl3⟩ := own_form hown3 (by omega)
  have hbw : Below w.heap.size w w3 := ((((Below.refl _ w).alloc (Nat.le_refl _) _).trans hb2).alloc (by have := hb2.size; simp at this; omega) _).trans hb3
  have hrow : w3.ownsRow w.heap.size 5 1 (.slice (some ⟨g3, 0, none⟩) (0 + n + 1) cap3) (n + 1) (bvs (l ++ [128])) := by
    have h := hown3
    rw [Nat.zero_add] at h ⊢
    rw [bvs_append]; exact h
  rw [Nat.zero_add] at hrow
  simp only [Nat.zero_add]
  clear hown3 hb2 hb3 hown2 hown0 hr0 hr2 hg3 hgl3 hcap3
  go_loopw [3] (fun v wr => ∃ N g cap : Nat, n + 1 ≤ N ∧ N ≤ n + 1 + zerosOf n ∧ v = .slice (some ⟨g, 0, none⟩) N cap ∧ wr.ownsRow w.heap.size 5 1 v N (bvs (l ++ [128] ++ List.replicate (N - (n + 1)) 0)) ∧ Below w.heap.size w wr)
    (fun v _ => n + 1 + zerosOf n - lenOf v)
  case atStart => exact ⟨n + 1, g3, cap3, Nat.le_refl _, by omega, rfl, by simpa using hrow, hbw⟩
  case round =>
    clear hrow hbw
    obtain ⟨N, g, cap, hN1, hN2, rfl, hrow, hbw⟩ := hrel
    have hz : zerosOf n < 64 := Nat.mod_lt _ (by decide)
    by_cases hlt : N < n + 1 + zerosOf n
    · have hne : ((N : Int) % 64 != 56) = true := by
        have h56 : N % 64 ≠ 56 := by unfold zerosOf at hlt; omega
        simp; omega
      have hr5 := Reads.one_new wr (.int .u8 0) 5
      go_wp2_with (first
        | (at_builtin
           refine wpList_append rfl (.tmp 15) (.tmp 16) 52 rfl u8_ok Try.underlying52 (hrow.alloc _) rfl hr5 rfl (bvs_one [0]) (by unfold maxLen; omega) (by omega) (by have := hbw.size; simp; omega) ?_
           intro v5 w5 hown5 hb5 _ _
           obtain ⟨g5, cap5, rfl, _, _, _, _⟩ := own_form hown5 (by omega)))
      go_roundw
      case rel =>
        refine ⟨N + 1, g5, cap5, by omega, by omega, rfl, ?_, (hbw.alloc hbw.size _).trans hb5⟩
        rw [show N + 1 - (n + 1) = N - (n + 1) + 1 by omega, List.replicate_succ', ← List.append_assoc, bvs_append _ [0]]
        exact hown5
      case measure => simp [lenOf]; omega
    · have hNe : N = n + 1 + zerosOf n := by omega
      have hne : ((N : Int) % 64 != 56) = false := by
        have h56 : N % 64 = 56 := by rw [hNe]; unfold zerosOf; omega
        simp; omega
      have HNe := hide hNe
      clear hNe
      go_wp2_with fail
      have hpb := pad_base l n N hl.out HNe.out
      generalize l ++ [128] ++ List.replicate (N - (n + 1)) 0 = base at *
      have HPB := hide hpb
      clear hpb
      have hN3 : N ≤ 100065 := by have := HNe.out; omega
      clear hne hN2 hlt
      go_loopw [3, 5] (fun v s wr => ∃ k g cap : Nat, k ≤ 8 ∧ s = .int .i64 (56 - 8 * (k : Int)) ∧ v = .slice (some ⟨g, 0, none⟩) (N + k) cap ∧ wr.ownsRow w.heap.size 5 1 v (N + k) (bvs (base ++ (be8 (n * 8)).take k)) ∧ Below w.heap.size w wr)
        (fun v _ _ => N + 8 - lenOf v)
      case atStart => exact ⟨0, g, cap, by omega, rfl, rfl, by simpa using hrow, hbw⟩
      case round =>
        clear hrow hbw
        obtain ⟨k, g, cap, hk, rfl, rfl, hrow, hbw⟩ := hrel
        have hcase : k = 0 ∨ k = 1 ∨ k = 2 ∨ k = 3 ∨ k = 4 ∨ k = 5 ∨ k = 6 ∨ k = 7 ∨ k = 8 := by omega
        rcases hcase with rfl | rfl | rfl | rfl | rfl | rfl | rfl | rfl | rfl
        · obtain ⟨b, hb0, hb1, hb2⟩ := low_byte (n * 8 / 72057594037927936) (by omega) (a := (n : Int) * 8 / 72057594037927936) (by omega)
          have HB := hide hb0
          clear hb0
          have hr5 := Reads.one_byte wr (b := b) rfl 5
          go_wp2_with (first
            | (at_builtin
               refine wpList_append rfl (.tmp 26) (.tmp 32) 52 rfl u8_ok Try.underlying52 (hrow.alloc _) rfl hr5 rfl (bvs_one _) (by unfold maxLen; omega) (by omega) (by have := hbw.size; simp; omega) ?_
               intro v5 w5 hown5 hb5 _ _
               obtain ⟨g5, cap5, rfl, _, _, _, _⟩ := own_form hown5 (by omega)))
          go_roundw
          case rel =>
            refine ⟨1, g5, cap5, by omega, rfl, rfl, ?_, (hbw.alloc hbw.size _).trans hb5⟩
            rw [show (be8 (n * 8)).take 1 = (be8 (n * 8)).take 0 ++ [UInt8.ofNat (n * 8 / 72057594037927936)] from rfl, ← HB.out, ← List.append_assoc, bvs_append _ [_]]
            exact hown5
          case measure => simp [lenOf]; try omega
        · obtain ⟨b, hb0, hb1, hb2⟩ := low_byte (n * 8 / 281474976710656) (by omega) (a := (n : Int) * 8 / 281474976710656) (by omega)
          have HB := hide hb0
          clear hb0
          have hr5 := Reads.one_byte wr (b := b) rfl 5
          go_wp2_with (first
            | (at_builtin
               refine wpList_append rfl (.tmp 26) (.tmp 32) 52 rfl u8_ok Try.underlying52 (hrow.alloc _) rfl hr5 rfl (bvs_one _) (by unfold maxLen; omega) (by omega) (by have := hbw.size; simp; omega) ?_
               intro v5 w5 hown5 hb5 _ _
               obtain ⟨g5, cap5, rfl, _, _, _, _⟩ := own_form hown5 (by omega)))
          go_roundw
          case rel =>
            refine ⟨2, g5, cap5, by omega, rfl, rfl, ?_, (hbw.alloc hbw.size _).trans hb5⟩
            rw [show (be8 (n * 8)).take 2 = (be8 (n * 8)).take 1 ++ [UInt8.ofNat (n * 8 / 281474976710656)] from rfl, ← HB.out, ← List.append_assoc, bvs_append _ [_]]
            exact hown5
          case measure => simp [lenOf]; try omega
        · obtain ⟨b, hb0, hb1, hb2⟩ := low_byte (n * 8 / 1099511627776) (by omega) (a := (n : Int) * 8 / 1099511627776) (by omega)
          have HB := hide hb0
          clear hb0
          have hr5 := Reads.one_byte wr (b := b) rfl 5
          go_wp2_with (first
            | (at_builtin
               refine wpList_append rfl (.tmp 26) (.tmp 32) 52 rfl u8_ok Try.underlying52 (hrow.alloc _) rfl hr5 rfl (bvs_one _) (by unfold maxLen; omega) (by omega) (by have := hbw.size; simp; omega) ?_
               intro v5 w5 hown5 hb5 _ _
               obtain ⟨g5, cap5, rfl, _, _, _, _⟩ := own_form hown5 (by omega)))
          go_roundw
          case rel =>
            refine ⟨3, g5, cap5, by omega, rfl, rfl, ?_, (hbw.alloc hbw.size _).trans hb5⟩
            rw [show (be8 (n * 8)).take 3 = (be8 (n * 8)).take 2 ++ [UInt8.ofNat (n * 8 / 1099511627776)] from rfl, ← HB.out, ← List.append_assoc, bvs_append _ [_]]
            exact hown5
          case measure => simp [lenOf]; try omega
        · obtain ⟨b, hb0, hb1, hb2⟩ := low_byte (n * 8 / 4294967296) (by omega) (a := (n : Int) * 8 / 4294967296) (by omega)
          have HB := hide hb0
          clear hb0
          have hr5 := Reads.one_byte wr (b := b) rfl 5
          go_wp2_with (first
            | (at_builtin
               refine wpList_append rfl (.tmp 26) (.tmp 32) 52 rfl u8_ok Try.underlying52 (hrow.alloc _) rfl hr5 rfl (bvs_one _) (by unfold maxLen; omega) (by omega) (by have := hbw.size; simp; omega) ?_
               intro v5 w5 hown5 hb5 _ _
               obtain ⟨g5, cap5, rfl, _, _, _, _⟩ := own_form hown5 (by omega)))
          go_roundw
          case rel =>
            refine ⟨4, g5, cap5, by omega, rfl, rfl, ?_, (hbw.alloc hbw.size _).trans hb5⟩
            rw [show (be8 (n * 8)).take 4 = (be8 (n * 8)).take 3 ++ [UInt8.ofNat (n * 8 / 4294967296)] from rfl, ← HB.out, ← List.append_assoc, bvs_append _ [_]]
            exact hown5
          case measure => simp [lenOf]; try omega
        · obtain ⟨b, hb0, hb1, hb2⟩ := low_byte (n * 8 / 16777216) (by omega) (a := (n : Int) * 8 / 16777216) (by omega)
          have HB := hide hb0
          clear hb0
          have hr5 := Reads.one_byte wr (b := b) rfl 5
          go_wp2_with (first
            | (at_builtin
               refine wpList_append rfl (.tmp 26) (.tmp 32) 52 rfl u8_ok Try.underlying52 (hrow.alloc _) rfl hr5 rfl (bvs_one _) (by unfold maxLen; omega) (by omega) (by have := hbw.size; simp; omega) ?_
               intro v5 w5 hown5 hb5 _ _
               obtain ⟨g5, cap5, rfl, _, _, _, _⟩ := own_form hown5 (by omega)))
          go_roundw
          case rel =>
            refine ⟨5, g5, cap5, by omega, rfl, rfl, ?_, (hbw.alloc hbw.size _).trans hb5⟩
            rw [show (be8 (n * 8)).take 5 = (be8 (n * 8)).take 4 ++ [UInt8.ofNat (n * 8 / 16777216)] from rfl, ← HB.out, ← List.append_assoc, bvs_append _ [_]]
            exact hown5
          case measure => simp [lenOf]; try omega
        · obtain ⟨b, hb0, hb1, hb2⟩ := low_byte (n * 8 / 65536) (by omega) (a := (n : Int) * 8 / 65536) (by omega)
          have HB := hide hb0
          clear hb0
          have hr5 := Reads.one_byte wr (b := b) rfl 5
          go_wp2_with (first
            | (at_builtin
               refine wpList_append rfl (.tmp 26) (.tmp 32) 52 rfl u8_ok Try.underlying52 (hrow.alloc _) rfl hr5 rfl (bvs_one _) (by unfold maxLen; omega) (by omega) (by have := hbw.size; simp; omega) ?_
               intro v5 w5 hown5 hb5 _ _
               obtain ⟨g5, cap5, rfl, _, _, _, _⟩ := own_form hown5 (by omega)))
          go_roundw
          case rel =>
            refine ⟨6, g5, cap5, by omega, rfl, rfl, ?_, (hbw.alloc hbw.size _).trans hb5⟩
            rw [show (be8 (n * 8)).take 6 = (be8 (n * 8)).take 5 ++ [UInt8.ofNat (n * 8 / 65536)] from rfl, ← HB.out, ← List.append_assoc, bvs_append _ [_]]
            exact hown5
          case measure => simp [lenOf]; try omega
        · obtain ⟨b, hb0, hb1, hb2⟩ := low_byte (n * 8 / 256) (by omega) (a := (n : Int) * 8 / 256) (by omega)
          have HB := hide hb0
          clear hb0
          have hr5 := Reads.one_byte wr (b := b) rfl 5
          go_wp2_with (first
            | (at_builtin
               refine wpList_append rfl (.tmp 26) (.tmp 32) 52 rfl u8_ok Try.underlying52 (hrow.alloc _) rfl hr5 rfl (bvs_one _) (by unfold maxLen; omega) (by omega) (by have := hbw.size; simp; omega) ?_
               intro v5 w5 hown5 hb5 _ _
               obtain ⟨g5, cap5, rfl, _, _, _, _⟩ := own_form hown5 (by omega)))
          go_roundw
          case rel =>
            refine ⟨7, g5, cap5, by omega, rfl, rfl, ?_, (hbw.alloc hbw.size _).trans hb5⟩
            rw [show (be8 (n * 8)).take 7 = (be8 (n * 8)).take 6 ++ [UInt8.ofNat (n * 8 / 256)] from rfl, ← HB.out, ← List.append_assoc, bvs_append _ [_]]
            exact hown5
          case measure => simp [lenOf]; try omega
        · obtain ⟨b, hb0, hb1, hb2⟩ := low_byte (n * 8) (by omega) (a := (n : Int) * 8) (by omega)
          have HB := hide hb0
          clear hb0
          have hr5 := Reads.one_byte wr (b := b) rfl 5
          go_wp2_with (first
            | (at_builtin
               refine wpList_append rfl (.tmp 26) (.tmp 32) 52 rfl u8_ok Try.underlying52 (hrow.alloc _) rfl hr5 rfl (bvs_one _) (by unfold maxLen; omega) (by omega) (by have := hbw.size; simp; omega) ?_
               intro v5 w5 hown5 hb5 _ _
               obtain ⟨g5, cap5, rfl, _, _, _, _⟩ := own_form hown5 (by omega)))
          go_roundw
          case rel =>
            refine ⟨8, g5, cap5, by omega, rfl, rfl, ?_, (hbw.alloc hbw.size _).trans hb5⟩
            rw [show (be8 (n * 8)).take 8 = (be8 (n * 8)).take 7 ++ [UInt8.ofNat (n * 8)] from rfl, ← HB.out, ← List.append_assoc, bvs_append _ [_]]
            exact hown5
          case measure => simp [lenOf]; try omega
        · go_wp2_with fail
          go_ret
          have hpl : (padded l).length = N + 8 := by
            have := hrow.1
            rw [bvs_length] at this
            rw [HPB.out]; simpa [be8] using this
          refine ⟨_, rfl, ?_, hbw⟩
          rw [hpl, HPB.out]
          exact hrow
end Go.Proofs.Ythfgblchlgodmaa
