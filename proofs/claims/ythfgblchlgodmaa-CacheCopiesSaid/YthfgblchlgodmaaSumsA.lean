/- The walks of layer 1's sums (package sums: table, Update, Crc, Bytes, Of): what each call answers, as a plain function. Conditions: those of each theorem. -/
import Derived.Test.YthfgblchlgodmaaRows
import Derived.Test.YthfgblchlgodmaaLib
import Derived.StillTailTactics
import Derived.Deep.QuietTactic
import Derived.BigQuiet
namespace Go.Proofs.Ythfgblchlgodmaa
open Go.RowKit
set_option linter.unusedVariables false

def hexv (n : Nat) : Nat := if 97 ≤ n then n - 97 + 10 else (n + 208) % 256

def nibs : List UInt8 := [48, 48, 48, 48, 48, 48, 48, 48, 32, 49, 100, 98, 55, 49, 48, 54, 52, 32, 51, 98, 54, 101, 50, 48, 99, 56, 32, 50, 54, 100, 57, 51, 48, 97, 99, 32, 55, 54, 100, 99, 52, 49, 57, 48, 32, 54, 98, 54, 98, 53, 49, 102, 52, 32, 52, 100, 98, 50, 54, 49, 53, 56, 32, 53, 48, 48, 53, 55, 49, 51, 99, 32, 101, 100, 98, 56, 56, 51, 50, 48, 32, 102, 48, 48, 102, 57, 51, 52, 52, 32, 100, 54, 100, 54, 97, 51, 101, 56, 32, 99, 98, 54, 49, 98, 51, 56, 99, 32, 57, 98, 54, 52, 99, 50, 98, 48, 32, 56, 54, 100, 51, 100, 50, 100, 52, 32, 97, 48, 48, 97, 101, 50, 55, 56, 32, 98, 100, 98, 100, 102, 50, 49, 99]

def acc (k : Nat) : Nat → Nat
  | 0 => 0
  | j + 1 => (acc k j * 16) % 4294967296 ||| hexv (nibs.getD (9 * k + j) 0).toNat

/-- the cells when k entries are done and j digits of the next -/
def tabAt (k j : Nat) : Array Value := ((List.range 16).map fun i => Value.int .u32 (if i < k then acc i 8 else if i = k then acc k j else 0 : Nat)).toArray

theorem tab_next (k : Nat) : tabAt k 8 = tabAt (k + 1) 0 := by
  unfold tabAt
  congr 2
  funext i
  congr 2
  by_cases h1 : i < k
  · rw [if_pos h1, if_pos (by omega)]
  · by_cases h2 : i = k
    · subst h2; simp
    · rw [if_neg h1, if_neg h2, if_neg (by omega)]; split <;> rfl
theorem tab_set (k j : Nat) (hk : k < 16) : (tabAt k j).setIfInBounds k (.int .u32 (acc k (j + 1) : Nat)) = tabAt k (j + 1) := by
  unfold tabAt
  apply Array.ext
  · simp
  · intro i h1 h2
    by_cases h : k = i
    · subst h; simp
    · have h' : ¬ i = k := Ne.symm h
      simp [h, h']
theorem tab_at (k j : Nat) (hk : k < 16) : (tabAt k j)[k]? = some (.int .u32 (acc k j : Nat)) := by
  simp [tabAt, hk]
theorem tab_full (i : Nat) (h : i < 16) : (tabAt 16 0)[i]? = some (.int .u32 (acc i 8 : Nat)) := by
  simp [tabAt, h]
theorem acc_lt : ∀ k, k < 16 → ∀ j, j ≤ 8 → acc k j < 4294967296 := by decide +kernel
theorem nibs_size (k : Nat) (hk : k < 16) : ((⟨nibs.toArray⟩ : ByteArray).extract (9 * k) (9 * k + 8)).size = 8 := by
  rw [ByteArray.size_extract]
  have : (⟨nibs.toArray⟩ : ByteArray).size = 143 := by decide +kernel
  omega
theorem nibs_get (k j : Nat) (hj : j < 8) : ((⟨nibs.toArray⟩ : ByteArray).extract (9 * k) (9 * k + 8)).data.toList.getD j 0 = nibs.getD (9 * k + j) 0 := by
  rw [ByteArray.data_extract]
  simp only [Array.toList_extract]
  rw [List.getD_eq_getElem?_getD, List.getD_eq_getElem?_getD]
  rw [List.extract_eq_take_drop, List.getElem?_take, if_pos (by omega), List.getElem?_drop]

def crcHalf (n : Nat) : Nat := n / 16 ^^^ acc (n % 16) 8
def crcByte (n : Nat) (b : UInt8) : Nat := crcHalf (crcHalf (n ^^^ b.toNat))
def crcRun (n : Nat) (l : List UInt8) : Nat := l.foldl crcByte n
def crcUpd (s : Nat) (l : List UInt8) : Nat := crcRun (s ^^^ 4294967295) l ^^^ 4294967295

theorem crcHalf_lt (n : Nat) (h : n < 4294967296) : crcHalf n < 4294967296 := by
  unfold crcHalf
  exact Nat.xor_lt_two_pow (n := 32) (by omega) (acc_lt _ (Nat.mod_lt _ (by decide)) 8 (by decide))
theorem crcByte_lt (n : Nat) (b : UInt8) (h : n < 4294967296) : crcByte n b < 4294967296 :=
  crcHalf_lt _ (crcHalf_lt _ (Nat.xor_lt_two_pow (n := 32) h (by have := b.toNat_lt; omega)))
theorem crcRun_lt (l : List UInt8) : ∀ n, n < 4294967296 → crcRun n l < 4294967296 := by
  induction l with
  | nil => intro n h; exact h
  | cons b l ih => intro n h; exact ih _ (crcByte_lt n b h)
theorem crcRun_snoc (n : Nat) (l : List UInt8) (k : Nat) (h : k < l.length) : crcRun n (l.take (k + 1)) = crcByte (crcRun n (l.take k)) (l.getD k 0) := by
  rw [List.take_succ_eq_append_getElem h]
  rw [crcRun, List.foldl_append]
  simp [crcRun, List.getD_eq_getElem?_getD, h]
theorem u32_not (a : Nat) (ha : a < 4294967296) : bits .xor .u32 (4294967295 : Int) (a : Int) = ((a ^^^ 4294967295 : Nat) : Int) := by
  have := u32_xor_nat 4294967295 a (by decide) ha
  rw [Nat.xor_comm] at this
  exact this

theorem half_step (z : Nat) (hz : z < 4294967296) : ∃ h : Nat, h < 16 ∧ bits .and .u32 (z : Int) 15 = (h : Int) ∧ (h : Int) % 256 = (h : Int) ∧ bits .xor .u32 ((z : Int) / 16) ((acc h 8 : Nat) : Int) = ((crcHalf z : Nat) : Int) ∧ crcHalf z < 4294967296 := by
  refine ⟨z % 16, Nat.mod_lt _ (by decide), ?_, by omega, ?_, crcHalf_lt z hz⟩
  · rw [show (15 : Int) = ((15 : Nat) : Int) from rfl, u32_and_nat z 15 hz (by decide), nat_mask4]
  · rw [show (z : Int) / 16 = ((z / 16 : Nat) : Int) by omega, u32_xor_nat _ _ (by omega) (acc_lt _ (Nat.mod_lt _ (by decide)) 8 (by decide))]
    rfl
theorem byte_step (x : Nat) (y : UInt8) (hx : x < 4294967296) : ∃ z : Nat, z < 4294967296 ∧ (y.toNat : Int) % 4294967296 = (y.toNat : Int) ∧ bits .xor .u32 (x : Int) (y.toNat : Int) = (z : Int) ∧ crcByte x y = crcHalf (crcHalf z) := by
  have hy := y.toNat_lt
  exact ⟨x ^^^ y.toNat, Nat.xor_lt_two_pow (n := 32) hx (by omega), by omega, u32_xor_nat _ _ hx (by omega), rfl⟩

end Go.Proofs.Ythfgblchlgodmaa
