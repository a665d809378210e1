/- The walks of Name (packages disk, taborref02). Conditions: those of each theorem. -/
import Derived.Test.YtaaaljpnhfmbpaaRows
import Derived.Test.YtaaaljpnhfmbpaaLib
import Derived.Test.YtaaaljpnhfmbpaaStep
import Derived.Deep.QuietTactic
import Derived.BigQuiet
import Derived.Deep.RegionWith
import Derived.Deep.DeepMust
namespace Go.Proofs.Ytaaaljpnhfmbpaa
open Go.RowKit
set_option linter.unusedVariables false

def nameD (y : UInt8) : Bool := decide (97 ≤ y.toNat ∧ y.toNat ≤ 122) || decide (48 ≤ y.toNat ∧ y.toNat ≤ 57) || decide (y.toNat = 46) || decide (y.toNat = 45)
def allD (l : List UInt8) : Bool := l.all nameD
def nameDS (s : ByteArray) : Bool := decide (0 < s.size) && decide (s.size ≤ 64) && allD s.data.toList
theorem allD_snoc {l : List UInt8} {k : Nat} (hk : k < l.length) (h : (l.take k).all nameD = true) (hy : nameD (l.getD k 0) = true) : (l.take (k + 1)).all nameD = true := by
  rw [List.take_succ_eq_append_getElem hk, List.all_append, h]
  rw [List.getD_eq_getElem?_getD, List.getElem?_eq_getElem hk] at hy
  simpa using hy
theorem allD_not {l : List UInt8} {k : Nat} (hk : k < l.length) (hy : nameD (l.getD k 0) = false) : allD l = false := by
  unfold allD
  rw [List.all_eq_false]
  rw [List.getD_eq_getElem?_getD, List.getElem?_eq_getElem hk] at hy
  exact ⟨l[k], List.getElem_mem hk, by simpa using hy⟩
theorem empty_of_size {s : ByteArray} (h : s.size = 0) : s = ⟨#[]⟩ := by
  cases s with
  | mk d =>
    have : d = #[] := Array.eq_empty_of_size_eq_zero h
    rw [this]
theorem nonempty_facts {s : ByteArray} (h : 0 < s.size) : s.toList.isEmpty = false ∧ ¬ s.toList = [] := by
  rw [ByteArray.toList_eq]
  have hne : s.data.toList ≠ [] := fun e => by
    have : s.data.toList.length = s.size := Array.length_toList
    rw [e] at this
    simp at this
    omega
  exact ⟨by simpa using hne, hne⟩

set_option maxHeartbeats 8000000 in
set_option maxRecDepth 20000 in
theorem odd_any (s : ByteArray) (w : World) (hs : s.size ≤ 140737488351232) : Calls Try.prog 35 #[.string s] w fun e w' => e = .returned (.bool (!allD s.data.toList)) ∧ Below w.heap.size w w' := by
  have hconv := run_conv (P := Try.prog) w 9 35 5 s Try.underlying9 Try.underlying35 Try.underlying5
  have hbc := convW_below s 5 w
  have hrc := convW_reads s 5 w
  have hll : Hid (s.data.toList.length = s.size) := Array.length_toList
  rw [show convV s 5 w = .slice (some ⟨w.heap.size, 0, none⟩) s.size (grownCap w s.size 0 5) from rfl] at hconv
  generalize grownCap w s.size 0 5 = cap at hconv
  generalize convW s 5 w = wx at *
  go_enter Try.func35, Try.ntmps35
  go_wp2_with fail
  go_loopw [4, 8] (fun _ i wr => ∃ k : Nat, k ≤ s.size ∧ i = .int .i64 k ∧ (s.data.toList.take k).all nameD = true ∧ wr = wx) (fun _ i _ => s.size - (intOf i).toNat)
  case atStart => exact ⟨0, Nat.zero_le _, rfl, rfl, rfl⟩
  case round =>
    obtain ⟨k, hk, rfl, hall, rfl⟩ := hrel
    have HA := hide hall
    clear hall
    by_cases hks : k < s.size
    · have hks' : (k : Int) < (s.size : Int) := by omega
      have hk0 : (0 : Int) ≤ (k : Int) := by omega
      have hwk : IntKind.i64.wrap ((k : Int) + 1) = (k : Int) + 1 := IntWalk.i64_in _ (by omega)
      obtain ⟨b', o', e1, _, hx⟩ := hrc.byte (k := k) hks
      obtain ⟨rfl, rfl⟩ : w.heap.size = b' ∧ 0 = o' := by simpa using e1
      rw [Nat.zero_add] at hx
      have HT := hide (allD_snoc (l := s.data.toList) (k := k) (by rw [hll.out]; exact hks) HA.out)
      have HF := hide (allD_not (l := s.data.toList) (k := k) (by rw [hll.out]; exact hks))
      clear e1
      generalize s.data.toList.getD k 0 = y at *
      have hy := y.toNat_lt
      have hnb : nameD y = (decide (97 ≤ y.toNat ∧ y.toNat ≤ 122) || decide (48 ≤ y.toNat ∧ y.toNat ≤ 57) || decide (y.toNat = 46) || decide (y.toNat = 45)) := rfl
      obtain ⟨v, hv⟩ : ∃ v : Nat, y.toNat = v := ⟨_, rfl⟩
      rw [hv] at hnb hy
      simp only [hv] at hx
      clear hv
      have HNB := hide hnb
      clear hnb
      have hiv : (0 ≤ v ∧ v ≤ 44) ∨ (45 ≤ v ∧ v ≤ 45) ∨ (46 ≤ v ∧ v ≤ 46) ∨ (47 ≤ v ∧ v ≤ 47) ∨ (48 ≤ v ∧ v ≤ 57) ∨ (58 ≤ v ∧ v ≤ 96) ∨ (97 ≤ v ∧ v ≤ 122) ∨ (123 ≤ v ∧ v ≤ 255) := by omega
      rcases hiv with ⟨g1, g2⟩ | ⟨g1, g2⟩ | ⟨g1, g2⟩ | ⟨g1, g2⟩ | ⟨g1, g2⟩ | ⟨g1, g2⟩ | ⟨g1, g2⟩ | ⟨g1, g2⟩
      · have hn : Hid (nameD y = false) := by
          show _ = _
          rw [HNB.out]
          simp
          omega
        have d1 : decide ((v : Int) < 97) = true := by simp; omega
        have d2 : decide ((122 : Int) < (v : Int)) = false := by simp; omega
        have d3 : decide ((v : Int) < 48) = true := by simp; omega
        have d4 : decide ((57 : Int) < (v : Int)) = false := by simp; omega
        have d5 : ((v : Int) != 46) = true := by simp; omega
        have d6 : ((v : Int) != 45) = true := by simp; omega
        clear g1 g2 hy
        go_wp2_with fail
        go_ret
        exact ⟨ret_bool (by rw [HF.out hn.out]; rfl), hbc⟩
      · have hn : Hid (nameD y = true) := by
          show _ = _
          rw [HNB.out]
          simp
          omega
        have d1 : decide ((v : Int) < 97) = true := by simp; omega
        have d2 : decide ((122 : Int) < (v : Int)) = false := by simp; omega
        have d3 : decide ((v : Int) < 48) = true := by simp; omega
        have d4 : decide ((57 : Int) < (v : Int)) = false := by simp; omega
        have d5 : ((v : Int) != 46) = true := by simp; omega
        have d6 : ((v : Int) != 45) = false := by simp; omega
        clear g1 g2 hy
        go_wp2_with fail
        go_roundw
        case rel => exact ⟨k + 1, by omega, by simp, HT.out hn.out, by first | rfl | trivial⟩
        case measure => simp [intOf]; omega
      · have hn : Hid (nameD y = true) := by
          show _ = _
          rw [HNB.out]
          simp
          omega
        have d1 : decide ((v : Int) < 97) = true := by simp; omega
        have d2 : decide ((122 : Int) < (v : Int)) = false := by simp; omega
        have d3 : decide ((v : Int) < 48) = true := by simp; omega
        have d4 : decide ((57 : Int) < (v : Int)) = false := by simp; omega
        have d5 : ((v : Int) != 46) = false := by simp; omega
        have d6 : ((v : Int) != 45) = true := by simp; omega
        clear g1 g2 hy
        go_wp2_with fail
        go_roundw
        case rel => exact ⟨k + 1, by omega, by simp, HT.out hn.out, by first | rfl | trivial⟩
        case measure => simp [intOf]; omega
      · have hn : Hid (nameD y = false) := by
          show _ = _
          rw [HNB.out]
          simp
          omega
        have d1 : decide ((v : Int) < 97) = true := by simp; omega
        have d2 : decide ((122 : Int) < (v : Int)) = false := by simp; omega
        have d3 : decide ((v : Int) < 48) = true := by simp; omega
        have d4 : decide ((57 : Int) < (v : Int)) = false := by simp; omega
        have d5 : ((v : Int) != 46) = true := by simp; omega
        have d6 : ((v : Int) != 45) = true := by simp; omega
        clear g1 g2 hy
        go_wp2_with fail
        go_ret
        exact ⟨ret_bool (by rw [HF.out hn.out]; rfl), hbc⟩
      · have hn : Hid (nameD y = true) := by
          show _ = _
          rw [HNB.out]
          simp
          omega
        have d1 : decide ((v : Int) < 97) = true := by simp; omega
        have d2 : decide ((122 : Int) < (v : Int)) = false := by simp; omega
        have d3 : decide ((v : Int) < 48) = false := by simp; omega
        have d4 : decide ((57 : Int) < (v : Int)) = false := by simp; omega
        have d5 : ((v : Int) != 46) = true := by simp; omega
        have d6 : ((v : Int) != 45) = true := by simp; omega
        clear g1 g2 hy
        go_wp2_with fail
        go_roundw
        case rel => exact ⟨k + 1, by omega, by simp, HT.out hn.out, by first | rfl | trivial⟩
        case measure => simp [intOf]; omega
      · have hn : Hid (nameD y = false) := by
          show _ = _
          rw [HNB.out]
          simp
          omega
        have d1 : decide ((v : Int) < 97) = true := by simp; omega
        have d2 : decide ((122 : Int) < (v : Int)) = false := by simp; omega
        have d3 : decide ((v : Int) < 48) = false := by simp; omega
        have d4 : decide ((57 : Int) < (v : Int)) = true := by simp; omega
        have d5 : ((v : Int) != 46) = true := by simp; omega
        have d6 : ((v : Int) != 45) = true := by simp; omega
        clear g1 g2 hy
        go_wp2_with fail
        go_ret
        exact ⟨ret_bool (by rw [HF.out hn.out]; rfl), hbc⟩
      · have hn : Hid (nameD y = true) := by
          show _ = _
          rw [HNB.out]
          simp
          omega
        have d1 : decide ((v : Int) < 97) = false := by simp; omega
        have d2 : decide ((122 : Int) < (v : Int)) = false := by simp; omega
        have d3 : decide ((v : Int) < 48) = false := by simp; omega
        have d4 : decide ((57 : Int) < (v : Int)) = true := by simp; omega
        have d5 : ((v : Int) != 46) = true := by simp; omega
        have d6 : ((v : Int) != 45) = true := by simp; omega
        clear g1 g2 hy
        go_wp2_with fail
        go_roundw
        case rel => exact ⟨k + 1, by omega, by simp, HT.out hn.out, by first | rfl | trivial⟩
        case measure => simp [intOf]; omega
      · have hn : Hid (nameD y = false) := by
          show _ = _
          rw [HNB.out]
          simp
          omega
        have d1 : decide ((v : Int) < 97) = false := by simp; omega
        have d2 : decide ((122 : Int) < (v : Int)) = true := by simp; omega
        have d3 : decide ((v : Int) < 48) = false := by simp; omega
        have d4 : decide ((57 : Int) < (v : Int)) = true := by simp; omega
        have d5 : ((v : Int) != 46) = true := by simp; omega
        have d6 : ((v : Int) != 45) = true := by simp; omega
        clear g1 g2 hy
        go_wp2_with fail
        go_ret
        exact ⟨ret_bool (by rw [HF.out hn.out]; rfl), hbc⟩
    · have hks' : ¬ (k : Int) < (s.size : Int) := by omega
      obtain rfl : k = s.size := by omega
      have hal : Hid (allD s.data.toList = true) := by
        have := HA.out
        rw [List.take_of_length_le (by rw [hll.out]; exact Nat.le_refl _)] at this
        exact this
      go_wp2_with fail
      go_ret
      exact ⟨ret_bool (by rw [hal.out]; rfl), hbc⟩

set_option maxHeartbeats 2000000 in
theorem name_any (s : ByteArray) (w : World) (hs : s.size ≤ 140737488351232) : Calls Try.prog 10 #[.string s] w fun e w' => e = .returned (.bool (nameDS s)) ∧ Below w.heap.size w w' := by
  by_cases h0 : s.size = 0
  · obtain rfl := empty_of_size h0
    clear h0
    have hx : nameDS ⟨#[]⟩ = false := by decide
    have HX := hide hx
    clear hx
    go_enter Try.func10, Try.ntmps10
    go_wp2_with fail
    go_ret
    exact ⟨ret_bool HX.out.symm, Below.refl _ _⟩
  · obtain ⟨he1, he2⟩ := nonempty_facts (s := s) (by omega)
    by_cases h64 : s.size ≤ 64
    · have h64I : (s.size : Int) ≤ 64 := by omega
      have HX : Hid (nameDS s = allD s.data.toList) := by
        show _ = _
        unfold nameDS
        rw [show decide (0 < s.size) = true from decide_eq_true (by omega), show decide (s.size ≤ 64) = true from decide_eq_true h64]
        rfl
      have H := hide (odd_any s w hs)
      go_enter Try.func10, Try.ntmps10
      go_wp2_with (first
        | (go_at_call 35; go_must (refine H.out.mono ?_; rintro e w2 ⟨rfl, hb2⟩))
        | fail)
      go_ret
      exact ⟨ret_bool (by rw [HX.out]; try simp), hb2⟩
    · have h64I : ¬ (s.size : Int) ≤ 64 := by omega
      have HX : Hid (nameDS s = false) := by
        show _ = _
        unfold nameDS
        rw [show decide (s.size ≤ 64) = false from decide_eq_false h64]
        simp
      go_enter Try.func10, Try.ntmps10
      go_wp2_with fail
      go_ret
      exact ⟨ret_bool HX.out.symm, Below.refl _ _⟩

set_option maxHeartbeats 8000000 in
set_option maxRecDepth 20000 in
theorem rname_any (s : ByteArray) (w : World) (hs : s.size ≤ 140737488351232) : Calls Try.prog 11 #[.string s] w fun e w' => e = .returned (.bool (nameDS s)) ∧ w = w' := by
  have hll : Hid (s.data.toList.length = s.size) := Array.length_toList
  go_enter Try.func11, Try.ntmps11
  go_wp2_with fail
  go_loopw [3, 4] (fun i _ wr => ∃ k : Nat, k ≤ s.size ∧ i = .int .i64 k ∧ (s.data.toList.take k).all nameD = true ∧ wr = w) (fun i _ _ => s.size - (intOf i).toNat)
  case atStart => exact ⟨0, Nat.zero_le _, rfl, rfl, rfl⟩
  case round =>
    obtain ⟨k, hk, rfl, hall, rfl⟩ := hrel
    have HA := hide hall
    clear hall
    by_cases hks : k < s.size
    · have hks' : (k : Int) < (s.size : Int) := by omega
      have hwk : IntKind.i64.wrap ((k : Int) + 1) = (k : Int) + 1 := IntWalk.i64_in _ (by omega)
      have hx : ∀ W : World, (Instr.index 9 (.string s) (.int .i64 (k : Int))).run Try.prog W = .ok (.int .u8 ((s.data.toList.getD k 0).toNat : Int)) W := fun W => by
        rw [run_index_string _ _ _ _ _ Try.underlying9, dif_pos ⟨by omega, hks'⟩]
        have : s[((k : Int)).toNat]'(by omega) = s.data.toList.getD k 0 := by
          rw [List.getD_eq_getElem?_getD, List.getElem?_eq_getElem (by rw [hll.out]; exact hks)]
          simp
          rfl
        rw [this]
      have HT := hide (allD_snoc (l := s.data.toList) (k := k) (by rw [hll.out]; exact hks) HA.out)
      have HF := hide (allD_not (l := s.data.toList) (k := k) (by rw [hll.out]; exact hks))
      generalize s.data.toList.getD k 0 = y at *
      have hy := y.toNat_lt
      have hnb : nameD y = (decide (97 ≤ y.toNat ∧ y.toNat ≤ 122) || decide (48 ≤ y.toNat ∧ y.toNat ≤ 57) || decide (y.toNat = 46) || decide (y.toNat = 45)) := rfl
      obtain ⟨v, hv⟩ : ∃ v : Nat, y.toNat = v := ⟨_, rfl⟩
      rw [hv] at hnb hy
      simp only [hv] at hx
      clear hv
      have HNB := hide hnb
      clear hnb
      have hiv : (0 ≤ v ∧ v ≤ 44) ∨ (45 ≤ v ∧ v ≤ 45) ∨ (46 ≤ v ∧ v ≤ 46) ∨ (47 ≤ v ∧ v ≤ 47) ∨ (48 ≤ v ∧ v ≤ 57) ∨ (58 ≤ v ∧ v ≤ 96) ∨ (97 ≤ v ∧ v ≤ 122) ∨ (123 ≤ v ∧ v ≤ 255) := by omega
      rcases hiv with ⟨g1, g2⟩ | ⟨g1, g2⟩ | ⟨g1, g2⟩ | ⟨g1, g2⟩ | ⟨g1, g2⟩ | ⟨g1, g2⟩ | ⟨g1, g2⟩ | ⟨g1, g2⟩
      · have hn : Hid (nameD y = false) := by
          show _ = _
          rw [HNB.out]
          simp
          omega
        have d1 : decide ((97 : Int) ≤ (v : Int)) = false := by simp; omega
        have d2 : decide ((v : Int) ≤ 122) = true := by simp; omega
        have d3 : decide ((48 : Int) ≤ (v : Int)) = false := by simp; omega
        have d4 : decide ((v : Int) ≤ 57) = true := by simp; omega
        have d5 : ((v : Int) == 46) = false := by simp; omega
        have d6 : ((v : Int) == 45) = false := by simp; omega
        clear g1 g2 hy
        go_wp2_with fail
        go_ret
        exact ⟨ret_bool (by unfold nameDS; rw [HF.out hn.out]; simp), rfl⟩
      · have hn : Hid (nameD y = true) := by
          show _ = _
          rw [HNB.out]
          simp
          omega
        have d1 : decide ((97 : Int) ≤ (v : Int)) = false := by simp; omega
        have d2 : decide ((v : Int) ≤ 122) = true := by simp; omega
        have d3 : decide ((48 : Int) ≤ (v : Int)) = false := by simp; omega
        have d4 : decide ((v : Int) ≤ 57) = true := by simp; omega
        have d5 : ((v : Int) == 46) = false := by simp; omega
        have d6 : ((v : Int) == 45) = true := by simp; omega
        clear g1 g2 hy
        go_wp2_with fail
        go_roundw
        case rel => exact ⟨k + 1, by omega, by simp, HT.out hn.out, by first | rfl | trivial⟩
        case measure => simp [intOf]; omega
      · have hn : Hid (nameD y = true) := by
          show _ = _
          rw [HNB.out]
          simp
          omega
        have d1 : decide ((97 : Int) ≤ (v : Int)) = false := by simp; omega
        have d2 : decide ((v : Int) ≤ 122) = true := by simp; omega
        have d3 : decide ((48 : Int) ≤ (v : Int)) = false := by simp; omega
        have d4 : decide ((v : Int) ≤ 57) = true := by simp; omega
        have d5 : ((v : Int) == 46) = true := by simp; omega
        have d6 : ((v : Int) == 45) = false := by simp; omega
        clear g1 g2 hy
        go_wp2_with fail
        go_roundw
        case rel => exact ⟨k + 1, by omega, by simp, HT.out hn.out, by first | rfl | trivial⟩
        case measure => simp [intOf]; omega
      · have hn : Hid (nameD y = false) := by
          show _ = _
          rw [HNB.out]
          simp
          omega
        have d1 : decide ((97 : Int) ≤ (v : Int)) = false := by simp; omega
        have d2 : decide ((v : Int) ≤ 122) = true := by simp; omega
        have d3 : decide ((48 : Int) ≤ (v : Int)) = false := by simp; omega
        have d4 : decide ((v : Int) ≤ 57) = true := by simp; omega
        have d5 : ((v : Int) == 46) = false := by simp; omega
        have d6 : ((v : Int) == 45) = false := by simp; omega
        clear g1 g2 hy
        go_wp2_with fail
        go_ret
        exact ⟨ret_bool (by unfold nameDS; rw [HF.out hn.out]; simp), rfl⟩
      · have hn : Hid (nameD y = true) := by
          show _ = _
          rw [HNB.out]
          simp
          omega
        have d1 : decide ((97 : Int) ≤ (v : Int)) = false := by simp; omega
        have d2 : decide ((v : Int) ≤ 122) = true := by simp; omega
        have d3 : decide ((48 : Int) ≤ (v : Int)) = true := by simp; omega
        have d4 : decide ((v : Int) ≤ 57) = true := by simp; omega
        have d5 : ((v : Int) == 46) = false := by simp; omega
        have d6 : ((v : Int) == 45) = false := by simp; omega
        clear g1 g2 hy
        go_wp2_with fail
        go_roundw
        case rel => exact ⟨k + 1, by omega, by simp, HT.out hn.out, by first | rfl | trivial⟩
        case measure => simp [intOf]; omega
      · have hn : Hid (nameD y = false) := by
          show _ = _
          rw [HNB.out]
          simp
          omega
        have d1 : decide ((97 : Int) ≤ (v : Int)) = false := by simp; omega
        have d2 : decide ((v : Int) ≤ 122) = true := by simp; omega
        have d3 : decide ((48 : Int) ≤ (v : Int)) = true := by simp; omega
        have d4 : decide ((v : Int) ≤ 57) = false := by simp; omega
        have d5 : ((v : Int) == 46) = false := by simp; omega
        have d6 : ((v : Int) == 45) = false := by simp; omega
        clear g1 g2 hy
        go_wp2_with fail
        go_ret
        exact ⟨ret_bool (by unfold nameDS; rw [HF.out hn.out]; simp), rfl⟩
      · have hn : Hid (nameD y = true) := by
          show _ = _
          rw [HNB.out]
          simp
          omega
        have d1 : decide ((97 : Int) ≤ (v : Int)) = true := by simp; omega
        have d2 : decide ((v : Int) ≤ 122) = true := by simp; omega
        have d3 : decide ((48 : Int) ≤ (v : Int)) = true := by simp; omega
        have d4 : decide ((v : Int) ≤ 57) = false := by simp; omega
        have d5 : ((v : Int) == 46) = false := by simp; omega
        have d6 : ((v : Int) == 45) = false := by simp; omega
        clear g1 g2 hy
        go_wp2_with fail
        go_roundw
        case rel => exact ⟨k + 1, by omega, by simp, HT.out hn.out, by first | rfl | trivial⟩
        case measure => simp [intOf]; omega
      · have hn : Hid (nameD y = false) := by
          show _ = _
          rw [HNB.out]
          simp
          omega
        have d1 : decide ((97 : Int) ≤ (v : Int)) = true := by simp; omega
        have d2 : decide ((v : Int) ≤ 122) = false := by simp; omega
        have d3 : decide ((48 : Int) ≤ (v : Int)) = true := by simp; omega
        have d4 : decide ((v : Int) ≤ 57) = false := by simp; omega
        have d5 : ((v : Int) == 46) = false := by simp; omega
        have d6 : ((v : Int) == 45) = false := by simp; omega
        clear g1 g2 hy
        go_wp2_with fail
        go_ret
        exact ⟨ret_bool (by unfold nameDS; rw [HF.out hn.out]; simp), rfl⟩
    · have hks' : ¬ (k : Int) < (s.size : Int) := by omega
      obtain rfl : k = s.size := by omega
      have hal : allD s.data.toList = true := by
        have := HA.out
        rw [List.take_of_length_le (by rw [hll.out]; exact Nat.le_refl _)] at this
        exact this
      by_cases h0 : s.size = 0
      · have h1 : ¬ (1 : Int) ≤ (s.size : Int) := by omega
        have HX : Hid (nameDS s = false) := by
          show _ = _
          unfold nameDS
          rw [show decide (0 < s.size) = false from decide_eq_false (by omega)]
          simp
        clear h0 hal
        go_wp2_with fail
        go_ret
        exact ⟨ret_bool HX.out.symm, rfl⟩
      · have h1 : (1 : Int) ≤ (s.size : Int) := by omega
        by_cases h64 : s.size ≤ 64
        · have h64' : (s.size : Int) ≤ 64 := by omega
          have HX : Hid (nameDS s = true) := by
            show _ = _
            unfold nameDS
            rw [show decide (0 < s.size) = true from decide_eq_true (by omega), show decide (s.size ≤ 64) = true from decide_eq_true h64, hal]
            rfl
          clear hal
          go_wp2_with fail
          go_ret
          exact ⟨ret_bool HX.out.symm, rfl⟩
        · have h64' : ¬ (s.size : Int) ≤ 64 := by omega
          have HX : Hid (nameDS s = false) := by
            show _ = _
            unfold nameDS
            rw [show decide (s.size ≤ 64) = false from decide_eq_false h64]
            simp
          clear hal
          go_wp2_with fail
          go_ret
          exact ⟨ret_bool HX.out.symm, rfl⟩
end Go.Proofs.Ytaaaljpnhfmbpaa
