/- What bytes are read as (plain); the walks of must, take, number (package frames). Conditions: those of each theorem. -/
import Derived.Test.YtbpodmgogokpiaaFrC
import Derived.Deep.RegionHeld3
import Derived.StillTailTactics
import Derived.Deep.DrawnRows
import Derived.Recover
namespace Go.Proofs.Ytbpodmgogokpiaa
open Go.RowKit
set_option linter.unusedVariables false
attribute [local go_sem ↓] Go.wp_at_zero Go.wp_at_succ

def failC (e : Nat) : List PanicEntry := [{ v := .iface 57 (.agg #[.int .i64 e]), recovered := false }]
theorem must_no (e : Nat) (w : World) : Calls Try.prog 48 #[.bool false, .int .i64 e] w fun x w' => x = .panicked (failC e) ∧ w = w' := by
  go_enter Try.func48, Try.ntmps48
  go_wp2_with fail
  exact ⟨rfl, rfl, rfl⟩
theorem must_yes (e : Nat) (w : World) : Calls Try.prog 48 #[.bool true, .int .i64 e] w fun x w' => x = .returned (.tuple #[]) ∧ w = w' := by
  go_enter Try.func48, Try.ntmps48
  go_wp2_with fail
  go_end0
  exact ⟨rfl, rfl⟩

theorem take_no {g : Nat} {t : TypeId} {cs : Array Value} (A : Option Addr) (n c e k : Nat) (w : World) (hB : Blk w g t cs) (h0 : cs[0]? = some (.slice A n c)) (h1 : cs[1]? = some (.int .i64 e)) (hkn : n < k) :
    Calls Try.prog 46 #[.pointer (some ⟨g, 0, none⟩), .int .i64 k] w fun x w' => x = .panicked (failC e) ∧ Below w.heap.size w w' := by
  have c0 := (hB.cell 0).trans h0
  have c1 := (hB.cell 1).trans h1
  have hI : ¬ (k : Int) ≤ (n : Int) := by omega
  have hD : decide (k ≤ n) = false := by simp; omega
  go_enter Try.func46, Try.ntmps46
  go_wp2_with fail
  refine wp_region_still_tail 11 (by kernel_rfl) (by kernel_rfl) ?_
  simp only [List.take_succ_cons, List.take_zero, List.drop_succ_cons, List.drop_zero]
  repeat still_step
  refine wpStill_nil ?_
  change wpList _ _ _ _ _ w.drew
  go_wp2_with (first
      | (go_at_call 48
         go_must (
         refine (must_no e _).mono ?_
         rintro e w2 ⟨rfl, rfl⟩))
      | fail)
  exact ⟨rfl, rfl, (Below.refl _ _).drew⟩
/-- k of the bytes are taken -/
theorem take_yes {g : Nat} {t : TypeId} {cs : Array Value} (A : Option Addr) (n c e k : Nat) (l : List UInt8) (w : World) {B : Nat} (hB : Blk w g t cs) (h0 : cs[0]? = some (.slice A n c)) (h1 : cs[1]? = some (.int .i64 e)) (hkn : k ≤ n) (hc : n ≤ c) (hcm : c ≤ maxLen)
    (hr : Reads w B 1 A n (bvs l)) (hBg : B ≤ g) :
    Calls Try.prog 46 #[.pointer (some ⟨g, 0, none⟩), .int .i64 k] w fun x w' => ∃ A2 c2, x = .returned (.slice A k c) ∧ Blk w' g t (cs.setIfInBounds 0 (.slice A2 (n - k) c2)) ∧ n - k ≤ c2 ∧ c2 ≤ maxLen ∧ Reads w' B 1 A2 (n - k) (bvs (l.drop k)) ∧ Reads w' B 1 A k (bvs (l.take k)) ∧ Below g w w' ∧ w'.heap.size = w.heap.size ∧ ∀ j, j ≠ g → w'.heap[j]? = w.heap[j]? := by
  have hl := hr.blen
  have c0 := (hB.cell 0).trans h0
  have c1 := (hB.cell 1).trans h1
  have hf0 := hB.frozen 0
  have hD : decide (k ≤ n) = true := by simp; omega
  have hk0 : (0 : Int) ≤ (k : Int) := by omega
  have hk1 : (k : Int) ≤ (c : Int) := by omega
  have hk2 : (k : Int) ≤ (n : Int) := by omega
  have hfr := hr.front hkn
  have hcut := hr.cut (k := k) (m := n - k) (cap := c) (by omega) hc
  have e0 : ((bvs l).drop k).take (n - k) = bvs (l.drop k) := by
    rw [bvs_drop, List.take_of_length_le (by rw [bvs_length, List.length_drop]; omega)]
  rw [e0] at hcut
  have HCUT := hide hcut
  have HFR := hide hfr
  clear hcut hfr e0 hl hr
  by_cases hck : c = k
  · rw [if_pos hck] at HCUT
    obtain rfl : c = k := hck
    obtain rfl : n = c := by omega
    rw [Nat.sub_self] at HCUT ⊢
    go_enter Try.func46, Try.ntmps46
    go_wp2_with fail
    refine wp_region_still_tail 11 (by kernel_rfl) (by kernel_rfl) ?_
    simp only [List.take_succ_cons, List.take_zero, List.drop_succ_cons, List.drop_zero]
    repeat still_step
    refine wpStill_nil ?_
    change wpList _ _ _ _ _ w.drew
    go_wp2_with (first
        | (go_at_call 48
           go_must (
           refine (must_yes e _).mono ?_
           rintro e w2 ⟨rfl, rfl⟩))
        | fail)
    go_ret
    exact ⟨A, 0, rfl, (hB.set_ 0 _).drew, Nat.le_refl _, by decide, (HCUT.out.setCell hBg _).drew, (HFR.out.setCell hBg _).drew, ((Below.refl g w).setCell (p := ⟨g, 0, none⟩) (Nat.le_refl _) _).drew, by simp, fun j hj => Below.heap_setCell w _ _ j hj⟩
  · rw [if_neg hck] at HCUT
    go_enter Try.func46, Try.ntmps46
    go_wp2_with fail
    refine wp_region_still_tail 11 (by kernel_rfl) (by kernel_rfl) ?_
    simp only [List.take_succ_cons, List.take_zero, List.drop_succ_cons, List.drop_zero]
    repeat still_step
    refine wpStill_nil ?_
    change wpList _ _ _ _ _ w.drew
    go_wp2_with (first
        | (go_at_call 48
           go_must (
           refine (must_yes e _).mono ?_
           rintro e w2 ⟨rfl, rfl⟩))
        | fail)
    go_ret
    exact ⟨A.map (·.add k), c - k, rfl, (hB.set_ 0 _).drew, by omega, by omega, (HCUT.out.setCell hBg _).drew, (HFR.out.setCell hBg _).drew, ((Below.refl g w).setCell (p := ⟨g, 0, none⟩) (Nat.le_refl _) _).drew, by simp, fun j hj => Below.heap_setCell w _ _ j hj⟩

theorem of4_take (l : List UInt8) : of4 (l.take 4) = of4 l := by
  unfold of4
  simp only [List.getD_eq_getElem?_getD, List.getElem?_take]
  simp
theorem of4_lt (l : List UInt8) : of4 l < 4294967296 := by
  unfold of4
  have h0 := (l.getD 0 0).toNat_lt
  have h1 := (l.getD 1 0).toNat_lt
  have h2 := (l.getD 2 0).toNat_lt
  have h3 := (l.getD 3 0).toNat_lt
  exact Nat.or_lt_two_pow (n := 32) (Nat.or_lt_two_pow (n := 32) (Nat.or_lt_two_pow (n := 32) (by omega) (by omega)) (by omega)) (by omega)
theorem number_no {g : Nat} {t : TypeId} {cs : Array Value} (A : Option Addr) (n c e : Nat) (w : World) (hB : Blk w g t cs) (h0 : cs[0]? = some (.slice A n c)) (h1 : cs[1]? = some (.int .i64 e)) (hkn : n < 4) :
    Calls Try.prog 47 #[.pointer (some ⟨g, 0, none⟩)] w fun x w' => x = .panicked (failC e) ∧ Below w.heap.size w w' := by
  have H := hide (take_no A n c e 4 w hB h0 h1 hkn)
  go_enter Try.func47, Try.ntmps47
  go_wp2_with (first
      | (go_at_call 46
         go_must (
         refine H.out.mono ?_
         rintro e w2 ⟨rfl, hb⟩))
      | fail)
  exact ⟨rfl, rfl, hb⟩
theorem number_yes {g : Nat} {t : TypeId} {cs : Array Value} (A : Option Addr) (n c e : Nat) (l : List UInt8) (w : World) {B : Nat} (hB : Blk w g t cs) (h0 : cs[0]? = some (.slice A n c)) (h1 : cs[1]? = some (.int .i64 e)) (hkn : 4 ≤ n) (hc : n ≤ c) (hcm : c ≤ maxLen)
    (hr : Reads w B 1 A n (bvs l)) (hBg : B ≤ g) :
    Calls Try.prog 47 #[.pointer (some ⟨g, 0, none⟩)] w fun x w' => ∃ A2 c2, x = .returned (.int .i64 (of4 l)) ∧ Blk w' g t (cs.setIfInBounds 0 (.slice A2 (n - 4) c2)) ∧ n - 4 ≤ c2 ∧ c2 ≤ maxLen ∧ Reads w' B 1 A2 (n - 4) (bvs (l.drop 4)) ∧ Below g w w' ∧ w'.heap.size = w.heap.size ∧ ∀ j, j ≠ g → w'.heap[j]? = w.heap[j]? := by
  have H := hide (take_yes A n c e 4 l w hB h0 h1 hkn hc hcm hr hBg)
  have hlt := of4_lt l
  have HO := hide (of4_take l)
  have hw : IntKind.i64.wrap ((of4 l : Nat) : Int) = ((of4 l : Nat) : Int) := IntWalk.i64_in _ (by omega)
  go_enter Try.func47, Try.ntmps47
  go_wp2_with (first
      | (go_at_call 46
         go_must (
         refine H.out.mono ?_
         rintro e w2 ⟨A2, c2, rfl, h1, h2, h3, h4, h5, h6, h7, h8⟩))
      | (go_at_call 52
         go_must (
         refine (of_any A c (l.take 4) w2 h5).mono ?_
         rintro e w3 ⟨rfl, rfl⟩
         rw [HO.out]))
      | fail)
  go_ret
  exact ⟨A2, c2, rfl, h1, h2, h3, h4, h6, h7, h8⟩
end Go.Proofs.Ytbpodmgogokpiaa
