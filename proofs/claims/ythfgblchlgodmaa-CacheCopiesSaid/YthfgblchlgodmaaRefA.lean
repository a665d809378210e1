/- The walks of the document's sums (package taborref01: Update, Crc) and of the law's own lent and kept. Conditions: those of each theorem. -/
import Derived.Test.YthfgblchlgodmaaSumsB
namespace Go.Proofs.Ythfgblchlgodmaa
open Go.RowKit
set_option linter.unusedVariables false

def refBit (n : Nat) : Nat := if n % 2 = 1 then n / 2 ^^^ 3988292384 else n / 2
def refBits : Nat → Nat → Nat
  | 0, n => n
  | k + 1, n => refBit (refBits k n)
def refByte (n : Nat) (b : UInt8) : Nat := refBits 8 (n ^^^ b.toNat)
def refRun (n : Nat) (l : List UInt8) : Nat := l.foldl refByte n
def refUpd (s : Nat) (l : List UInt8) : Nat := refRun (s ^^^ 4294967295) l ^^^ 4294967295

theorem refBit_lt (n : Nat) (h : n < 4294967296) : refBit n < 4294967296 := by
  unfold refBit
  split
  · exact Nat.xor_lt_two_pow (n := 32) (by omega) (by decide)
  · omega
theorem refBits_lt (n : Nat) (h : n < 4294967296) : ∀ k, refBits k n < 4294967296
  | 0 => h
  | k + 1 => refBit_lt _ (refBits_lt n h k)
theorem refByte_lt (n : Nat) (b : UInt8) (h : n < 4294967296) : refByte n b < 4294967296 :=
  refBits_lt _ (Nat.xor_lt_two_pow (n := 32) h (by have := b.toNat_lt; omega)) 8
theorem refRun_lt (l : List UInt8) : ∀ n, n < 4294967296 → refRun n l < 4294967296 := by
  induction l with
  | nil => intro n h; exact h
  | cons b l ih => intro n h; exact ih _ (refByte_lt n b h)
theorem refRun_snoc (n : Nat) (l : List UInt8) (k : Nat) (h : k < l.length) : refRun n (l.take (k + 1)) = refByte (refRun n (l.take k)) (l.getD k 0) := by
  rw [List.take_succ_eq_append_getElem h]
  rw [refRun, List.foldl_append]
  simp [refRun, List.getD_eq_getElem?_getD, h]
theorem xor64 {a b : Int} {x y : Nat} (ha : a = (x : Int)) (hb : b = (y : Int)) (hx : x < 4294967296) (hy : y < 4294967296) : bits .xor .u64 a b = ((x ^^^ y : Nat) : Int) := by
  subst ha; subst hb
  exact u64_xor_nat x y (by omega) (by omega)

theorem u8_ok : ElemOk Try.prog 5 1 1 (.int .u8 0) := elemOk (by kernel_rfl) rfl (by decide)

end Go.Proofs.Ythfgblchlgodmaa
