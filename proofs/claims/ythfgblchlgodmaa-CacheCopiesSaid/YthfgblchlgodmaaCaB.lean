/- The walks of Name (packages cache, taborref21). Conditions: those of each theorem. -/
import Derived.Test.YthfgblchlgodmaaCaA
import Derived.Test.YthfgblchlgodmaaStep
namespace Go.Proofs.Ythfgblchlgodmaa
open Go.RowKit
set_option linter.unusedVariables false

theorem has_part_any (pb cb : Nat) (y : UInt8) (w : World) (hp : Blk w pb 65 partCells) (hc : Blk w cb 5 #[.int .u8 (y.toNat : Int)]) :
    Calls Try.prog 32 #[.slice (some ⟨pb, 0, none⟩) 4 4, .func (.func 33) #[] #[.pointer (some ⟨cb, 0, none⟩)]] w fun e w' => e = .returned (.bool (nameB y)) ∧ Below w.heap.size w w' := by
  have H := hide (idx_part_any pb cb y w hp hc)
  have HN := hide (idxP_name y)
  generalize idxP y = k at *
  go_enter Try.func32, Try.ntmps32
  go_wp2_with (first
    | (go_at_call 47; go_must (refine H.out.mono ?_; rintro e w2 ⟨rfl, hb2⟩))
    | fail)
  go_ret
  exact ⟨ret_bool HN.out, hb2⟩

theorem odd_any (pb : Nat) (y : UInt8) (w : World) (hp : Blk w pb 65 partCells) :
    Calls Try.prog 31 #[.int .u8 (y.toNat : Int), .pointer (some ⟨pb, 0, none⟩)] w fun e w' => e = .returned (.bool (!nameB y)) ∧ Below w.heap.size w w' := by
  have hb : Below w.heap.size w (w.alloc (.cells #[.int .u8 (y.toNat : Int)] 5)) := (Below.refl _ w).alloc (Nat.le_refl _) _
  have H := hide (has_part_any pb w.heap.size y _ (hp.alloc (.cells #[.int .u8 (y.toNat : Int)] 5)) (Blk.new w 5 #[.int .u8 (y.toNat : Int)]))
  go_enter Try.func31, Try.ntmps31
  go_wp2_with (first
    | (go_at_call 32; go_must (refine H.out.mono ?_; rintro e w2 ⟨rfl, hb2⟩))
    | fail)
  go_ret
  exact ⟨rfl, hb.trans (hb2.mono hb.size)⟩

/-- all bytes are a name's -/
def allB (l : List UInt8) : Bool := l.all nameB
set_option maxHeartbeats 1000000 in
theorem idx_byte_any (pb : Nat) (A : Option Addr) (n c : Nat) (l : List UInt8) (w : World) (hp : Blk w pb 65 partCells) (hr : Reads w w.heap.size 1 A n (bvs l)) (hn : n ≤ 64) :
    Calls Try.prog 48 #[.slice A n c, .func (.func 31) #[] #[.pointer (some ⟨pb, 0, none⟩)]] w fun e w' => (∃ k : Int, e = .returned (.int .i64 k) ∧ decide (0 ≤ k) = !allB l) ∧ Below w.heap.size w w' := by
  have hl := hide hr.blen
  go_enter Try.func48, Try.ntmps48
  go_wp2_with fail
  go_loopw [8] (fun i wr => ∃ t : Nat, t ≤ n ∧ i = .int .i64 t ∧ (∀ j, j < t → nameB (l.getD j 0) = true) ∧ Below w.heap.size w wr) (fun i _ => n - (intOf i).toNat)
  case atStart => exact ⟨0, by omega, rfl, fun j hj => absurd hj (by omega), Below.refl _ _⟩
  case round =>
    obtain ⟨t, ht, rfl, hno, hbw⟩ := hrel
    have HNO := hide hno
    clear hno
    have hpw := hp.below hbw hp.lt
    by_cases htn : t < n
    · have htI : (t : Int) < (n : Int) := by omega
      have hw2 : IntKind.i64.wrap ((t : Int) + 1) = (t : Int) + 1 := IntWalk.i64_in _ (by omega)
      obtain ⟨b, o, rfl, hb, hcell⟩ := (hr.below hbw).byte htn
      have H := hide (odd_any pb (l.getD t 0) wr hpw)
      cases hy : nameB (l.getD t 0) with
      | true =>
        have HY := hide hy
        rw [hy] at H
        clear hy
        go_wp2_with (first
          | (go_at_call 31; go_must (refine H.out.mono ?_; rintro e w2 ⟨rfl, hb2⟩; have hbw2 := hbw.trans (hb2.mono hbw.size)))
          | fail)
        go_roundw
        case rel => exact ⟨t + 1, by omega, by simp, fun j hj => by
          rcases Nat.lt_or_ge j t with h | h
          · exact HNO.out j h
          · obtain rfl : j = t := by omega
            exact HY.out, hbw2⟩
        case measure => simp [intOf]; omega
      | false =>
        have HA : Hid (allB l = false) := by
          show _ = _
          unfold allB
          rw [List.all_eq_false]
          exact ⟨l.getD t 0, by
            rw [List.getD_eq_getElem?_getD, List.getElem?_eq_getElem (by rw [hl.out]; exact htn)]
            exact List.getElem_mem _, by rw [hy]; decide⟩
        rw [hy] at H
        clear hy
        go_wp2_with (first
          | (go_at_call 31; go_must (refine H.out.mono ?_; rintro e w2 ⟨rfl, hb2⟩; have hbw2 := hbw.trans (hb2.mono hbw.size)))
          | fail)
        go_ret
        exact ⟨⟨(t : Int), rfl, by rw [HA.out]; simp⟩, hbw2⟩
    · have htI : ¬ (t : Int) < (n : Int) := by omega
      obtain rfl : t = n := by omega
      have HA : Hid (allB l = true) := by
        show _ = _
        unfold allB
        rw [List.all_eq_true]
        intro x hx
        obtain ⟨j, hj, hjx⟩ := List.getElem_of_mem hx
        have := HNO.out j (by rw [← hl.out]; exact hj)
        rw [List.getD_eq_getElem?_getD, List.getElem?_eq_getElem hj] at this
        rw [← hjx]
        exact this
      go_wp2_with fail
      go_ret
      exact ⟨⟨-1, rfl, by rw [HA.out]; rfl⟩, hbw⟩
end Go.Proofs.Ythfgblchlgodmaa
