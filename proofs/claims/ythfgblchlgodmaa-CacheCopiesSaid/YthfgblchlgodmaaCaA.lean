/- The walks of Name (packages cache, taborref21): which texts are names. Conditions: those of each theorem. -/
import Derived.Test.YthfgblchlgodmaaRows
import Derived.Test.YthfgblchlgodmaaLib
import Derived.Deep.QuietTactic
import Derived.BigQuiet
import Derived.Deep.RegionWith
import Derived.Deep.DeepMust
namespace Go.Proofs.Ythfgblchlgodmaa
open Go.RowKit
set_option linter.unusedVariables false

def partLo (t : Nat) : Nat := if t = 0 then 97 else if t = 1 then 65 else if t = 2 then 48 else 95
def partHi (t : Nat) : Nat := if t = 0 then 122 else if t = 1 then 90 else if t = 2 then 57 else 95
def inP (t : Nat) (y : UInt8) : Bool := decide (partLo t ≤ y.toNat) && decide (y.toNat ≤ partHi t)
def nameB (y : UInt8) : Bool := inP 0 y || inP 1 y || inP 2 y || inP 3 y
def partCells : Array Value := #[.int .u8 97, .int .u8 122, .int .u8 65, .int .u8 90, .int .u8 48, .int .u8 57, .int .u8 95, .int .u8 95]

theorem part_any (lo hi : Nat) (cb : Nat) (y : UInt8) (w : World) (hlo : lo < 256) (hhi : hi < 256) (hc : Blk w cb 5 #[.int .u8 (y.toNat : Int)]) :
    Calls Try.prog 33 #[.agg #[.int .u8 lo, .int .u8 hi], .pointer (some ⟨cb, 0, none⟩)] w fun e w' => e = .returned (.bool (decide (lo ≤ y.toNat) && decide (y.toNat ≤ hi))) ∧ Below w.heap.size w w' := by
  have c0 := hc.cell 0
  rw [show (#[Value.int .u8 (y.toNat : Int)] : Array Value)[0]? = some (.int .u8 (y.toNat : Int)) from rfl] at c0
  have hcl := hc.lt
  have hb : Below w.heap.size w (w.alloc (.cells #[.int .u8 lo, .int .u8 hi] 64)) := (Below.refl _ w).alloc (Nat.le_refl _) _
  have c1 : (w.alloc (.cells #[.int .u8 lo, .int .u8 hi] 64)).cell? ⟨cb, 0, none⟩ = some (.int .u8 (y.toNat : Int)) := (hb.cell (p := ⟨cb, 0, none⟩) hcl).trans c0
  generalize y.toNat = v at *
  by_cases h1 : lo ≤ v
  · have d1 : decide (lo ≤ v) = true := by simpa using h1
    by_cases h2 : v ≤ hi
    · have d2 : decide (v ≤ hi) = true := by simpa using h2
      go_enter Try.func33, Try.ntmps33
      go_wp2_with fail
      go_ret
      exact ⟨ret_bool (by rw [d1, d2]; rfl), hb⟩
    · have d2 : decide (v ≤ hi) = false := by simpa using h2
      go_enter Try.func33, Try.ntmps33
      go_wp2_with fail
      go_ret
      exact ⟨ret_bool (by rw [d1, d2]; rfl), hb⟩
  · have d1 : decide (lo ≤ v) = false := by simpa using h1
    go_enter Try.func33, Try.ntmps33
    go_wp2_with fail
    go_ret
    exact ⟨ret_bool (by rw [d1]; rfl), hb⟩

def idxP (y : UInt8) : Int := if inP 0 y then 0 else if inP 1 y then 1 else if inP 2 y then 2 else if inP 3 y then 3 else -1
theorem idxP_name (y : UInt8) : decide (0 ≤ idxP y) = nameB y := by
  unfold idxP nameB
  cases inP 0 y <;> cases inP 1 y <;> cases inP 2 y <;> cases inP 3 y <;> rfl
set_option maxHeartbeats 2000000 in
theorem idx_part_any (pb cb : Nat) (y : UInt8) (w : World) (hp : Blk w pb 65 partCells) (hc : Blk w cb 5 #[.int .u8 (y.toNat : Int)]) :
    Calls Try.prog 47 #[.slice (some ⟨pb, 0, none⟩) 4 4, .func (.func 33) #[] #[.pointer (some ⟨cb, 0, none⟩)]] w fun e w' => e = .returned (.int .i64 (idxP y)) ∧ Below w.heap.size w w' := by
  go_enter Try.func47, Try.ntmps47
  go_wp2_with fail
  go_loopw [8] (fun i wr => ∃ t : Nat, t ≤ 4 ∧ i = .int .i64 t ∧ (∀ j, j < t → inP j y = false) ∧ Below w.heap.size w wr) (fun i _ => 4 - (intOf i).toNat)
  case atStart => exact ⟨0, by omega, rfl, fun j hj => absurd hj (by omega), Below.refl _ _⟩
  case round =>
    obtain ⟨t, ht, rfl, hno, hbw⟩ := hrel
    have hpw := hp.below hbw hp.lt
    have hcw := hc.below hbw hc.lt
    by_cases h4 : t = 4
    · subst h4
      have hix : idxP y = -1 := by unfold idxP; rw [hno 0 (by omega), hno 1 (by omega), hno 2 (by omega), hno 3 (by omega)]; rfl
      have HIX := hide hix
      clear hix hno
      go_wp2_with fail
      go_ret
      exact ⟨ret_int HIX.out.symm, hbw⟩
    · have h03 : t = 0 ∨ t = 1 ∨ t = 2 ∨ t = 3 := by omega
      clear h4 ht
      rcases h03 with rfl | rfl | rfl | rfl
      · have c0 := hpw.cell 0
        have c1 := hpw.cell 1
        rw [show partCells[0]? = some (.int .u8 ((partLo 0 : Nat) : Int)) from rfl] at c0
        rw [show partCells[1]? = some (.int .u8 ((partHi 0 : Nat) : Int)) from rfl] at c1
        have hpa := part_any (partLo 0) (partHi 0) cb y wr (by decide) (by decide) hcw
        by_cases hi : inP 0 y = true
        · have hix : idxP y = 0 := by unfold idxP; simp_all
          have HIX := hide hix
          have hi' : (decide (partLo 0 ≤ y.toNat) && decide (y.toNat ≤ partHi 0)) = true := hi
          rw [hi'] at hpa
          clear hix hi hi' hno
          go_wp2_with (first
            | (go_at_call 33
               go_must (
               refine hpa.mono ?_
               rintro e w2 ⟨rfl, hb2⟩
               have hbw2 := hbw.trans (hb2.mono hbw.size)))
            | fail)
          go_ret
          exact ⟨ret_int HIX.out.symm, hbw2⟩
        · have hi0 : inP 0 y = false := by simpa using hi
          have hi' : (decide (partLo 0 ≤ y.toNat) && decide (y.toNat ≤ partHi 0)) = false := hi0
          rw [hi'] at hpa
          have HNO := hide hno
          have HI0 := hide hi0
          clear hi hi' hno hi0
          go_wp2_with (first
            | (go_at_call 33
               go_must (
               refine hpa.mono ?_
               rintro e w2 ⟨rfl, hb2⟩
               have hbw2 := hbw.trans (hb2.mono hbw.size)))
            | fail)
          go_roundw
          case rel => exact ⟨1, by omega, rfl, fun j hj => by
            rcases Nat.lt_or_ge j 0 with h | h
            · exact HNO.out j h
            · obtain rfl : j = 0 := by omega
              exact HI0.out, hbw2⟩
          case measure => simp [intOf]
      · have c0 := hpw.cell 2
        have c1 := hpw.cell 3
        rw [show partCells[2]? = some (.int .u8 ((partLo 1 : Nat) : Int)) from rfl] at c0
        rw [show partCells[3]? = some (.int .u8 ((partHi 1 : Nat) : Int)) from rfl] at c1
        have hpa := part_any (partLo 1) (partHi 1) cb y wr (by decide) (by decide) hcw
        by_cases hi : inP 1 y = true
        · have hix : idxP y = 1 := by unfold idxP; simp_all
          have HIX := hide hix
          have hi' : (decide (partLo 1 ≤ y.toNat) && decide (y.toNat ≤ partHi 1)) = true := hi
          rw [hi'] at hpa
          clear hix hi hi' hno
          go_wp2_with (first
            | (go_at_call 33
               go_must (
               refine hpa.mono ?_
               rintro e w2 ⟨rfl, hb2⟩
               have hbw2 := hbw.trans (hb2.mono hbw.size)))
            | fail)
          go_ret
          exact ⟨ret_int HIX.out.symm, hbw2⟩
        · have hi0 : inP 1 y = false := by simpa using hi
          have hi' : (decide (partLo 1 ≤ y.toNat) && decide (y.toNat ≤ partHi 1)) = false := hi0
          rw [hi'] at hpa
          have HNO := hide hno
          have HI0 := hide hi0
          clear hi hi' hno hi0
          go_wp2_with (first
            | (go_at_call 33
               go_must (
               refine hpa.mono ?_
               rintro e w2 ⟨rfl, hb2⟩
               have hbw2 := hbw.trans (hb2.mono hbw.size)))
            | fail)
          go_roundw
          case rel => exact ⟨2, by omega, rfl, fun j hj => by
            rcases Nat.lt_or_ge j 1 with h | h
            · exact HNO.out j h
            · obtain rfl : j = 1 := by omega
              exact HI0.out, hbw2⟩
          case measure => simp [intOf]
      · have c0 := hpw.cell 4
        have c1 := hpw.cell 5
        rw [show partCells[4]? = some (.int .u8 ((partLo 2 : Nat) : Int)) from rfl] at c0
        rw [show partCells[5]? = some (.int .u8 ((partHi 2 : Nat) : Int)) from rfl] at c1
        have hpa := part_any (partLo 2) (partHi 2) cb y wr (by decide) (by decide) hcw
        by_cases hi : inP 2 y = true
        · have hix : idxP y = 2 := by unfold idxP; simp_all
          have HIX := hide hix
          have hi' : (decide (partLo 2 ≤ y.toNat) && decide (y.toNat ≤ partHi 2)) = true := hi
          rw [hi'] at hpa
          clear hix hi hi' hno
          go_wp2_with (first
            | (go_at_call 33
               go_must (
               refine hpa.mono ?_
               rintro e w2 ⟨rfl, hb2⟩
               have hbw2 := hbw.trans (hb2.mono hbw.size)))
            | fail)
          go_ret
          exact ⟨ret_int HIX.out.symm, hbw2⟩
        · have hi0 : inP 2 y = false := by simpa using hi
          have hi' : (decide (partLo 2 ≤ y.toNat) && decide (y.toNat ≤ partHi 2)) = false := hi0
          rw [hi'] at hpa
          have HNO := hide hno
          have HI0 := hide hi0
          clear hi hi' hno hi0
          go_wp2_with (first
            | (go_at_call 33
               go_must (
               refine hpa.mono ?_
               rintro e w2 ⟨rfl, hb2⟩
               have hbw2 := hbw.trans (hb2.mono hbw.size)))
            | fail)
          go_roundw
          case rel => exact ⟨3, by omega, rfl, fun j hj => by
            rcases Nat.lt_or_ge j 2 with h | h
            · exact HNO.out j h
            · obtain rfl : j = 2 := by omega
              exact HI0.out, hbw2⟩
          case measure => simp [intOf]
      · have c0 := hpw.cell 6
        have c1 := hpw.cell 7
        rw [show partCells[6]? = some (.int .u8 ((partLo 3 : Nat) : Int)) from rfl] at c0
        rw [show partCells[7]? = some (.int .u8 ((partHi 3 : Nat) : Int)) from rfl] at c1
        have hpa := part_any (partLo 3) (partHi 3) cb y wr (by decide) (by decide) hcw
        by_cases hi : inP 3 y = true
        · have hix : idxP y = 3 := by unfold idxP; simp_all
          have HIX := hide hix
          have hi' : (decide (partLo 3 ≤ y.toNat) && decide (y.toNat ≤ partHi 3)) = true := hi
          rw [hi'] at hpa
          clear hix hi hi' hno
          go_wp2_with (first
            | (go_at_call 33
               go_must (
               refine hpa.mono ?_
               rintro e w2 ⟨rfl, hb2⟩
               have hbw2 := hbw.trans (hb2.mono hbw.size)))
            | fail)
          go_ret
          exact ⟨ret_int HIX.out.symm, hbw2⟩
        · have hi0 : inP 3 y = false := by simpa using hi
          have hi' : (decide (partLo 3 ≤ y.toNat) && decide (y.toNat ≤ partHi 3)) = false := hi0
          rw [hi'] at hpa
          have HNO := hide hno
          have HI0 := hide hi0
          clear hi hi' hno hi0
          go_wp2_with (first
            | (go_at_call 33
               go_must (
               refine hpa.mono ?_
               rintro e w2 ⟨rfl, hb2⟩
               have hbw2 := hbw.trans (hb2.mono hbw.size)))
            | fail)
          go_roundw
          case rel => exact ⟨4, by omega, rfl, fun j hj => by
            rcases Nat.lt_or_ge j 3 with h | h
            · exact HNO.out j h
            · obtain rfl : j = 3 := by omega
              exact HI0.out, hbw2⟩
          case measure => simp [intOf]
end Go.Proofs.Ythfgblchlgodmaa
