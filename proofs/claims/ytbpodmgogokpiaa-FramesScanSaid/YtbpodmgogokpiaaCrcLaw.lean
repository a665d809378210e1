/- The program's sum and the document's are one (plain law). -/
import Derived.Test.YtbpodmgogokpiaaRefA
import Derived.Test.YtbpodmgogokpiaaSumsB
namespace Go.Proofs.Ytbpodmgogokpiaa
set_option linter.unusedVariables false
theorem xlc (a b c : Nat) : a ^^^ (b ^^^ c) = b ^^^ (a ^^^ c) := by rw [← Nat.xor_assoc, Nat.xor_comm a b, Nat.xor_assoc]
theorem refBit_xor (a b : Nat) : refBit (a ^^^ b) = refBit a ^^^ refBit b := by
  have hd : (a ^^^ b) / 2 = a / 2 ^^^ b / 2 := Nat.xor_div_two
  have hm : (a ^^^ b) % 2 = (a % 2 + b % 2) % 2 := by
    have := Nat.xor_mod_two_pow (a := a) (b := b) (n := 1)
    rw [Nat.pow_one] at this
    rw [this]
    rcases Nat.mod_two_eq_zero_or_one a with h | h <;> rcases Nat.mod_two_eq_zero_or_one b with h' | h' <;> rw [h, h'] <;> decide
  unfold refBit
  rw [hd, hm]
  rcases Nat.mod_two_eq_zero_or_one a with h | h <;> rcases Nat.mod_two_eq_zero_or_one b with h' | h' <;> simp [h, h', Nat.xor_assoc, Nat.xor_comm, xlc]
theorem refBits_xor : ∀ (k a b : Nat), refBits k (a ^^^ b) = refBits k a ^^^ refBits k b
  | 0, _, _ => rfl
  | k + 1, a, b => by simp only [refBits, refBit_xor, refBits_xor k]
theorem refBit_even (q : Nat) : refBit (2 * q) = q := by unfold refBit; rw [if_neg (by omega)]; omega
theorem split16 (n : Nat) : n = (16 * (n / 16)) ^^^ (n % 16) := by
  have hd : ((16 * (n / 16)) ^^^ (n % 16)) / 16 = n / 16 := by
    have := Nat.xor_div_two_pow (a := 16 * (n / 16)) (b := n % 16) (n := 4)
    rw [show (2 : Nat) ^ 4 = 16 from rfl] at this
    rw [this, Nat.mul_div_cancel_left _ (by decide), Nat.div_eq_of_lt (Nat.mod_lt _ (by decide)), Nat.xor_zero]
  have hm : ((16 * (n / 16)) ^^^ (n % 16)) % 16 = n % 16 := by
    have := Nat.xor_mod_two_pow (a := 16 * (n / 16)) (b := n % 16) (n := 4)
    rw [show (2 : Nat) ^ 4 = 16 from rfl] at this
    rw [this, Nat.mul_mod_right, Nat.zero_xor, Nat.mod_mod]
  omega
theorem half_ref (n : Nat) : crcHalf n = refBits 4 n := by
  have hr : ∀ r, r < 16 → refBits 4 r = acc r 8 := by decide +kernel
  have hq : refBits 4 (16 * (n / 16)) = n / 16 := by
    simp only [refBits]
    rw [show 16 * (n / 16) = 2 * (2 * (2 * (2 * (n / 16)))) by omega]
    simp only [refBit_even]
  rw [split16 n, refBits_xor, ← split16 n, hq, hr _ (Nat.mod_lt _ (by decide))]
  rfl
theorem crcByte_ref (n : Nat) (b : UInt8) : crcByte n b = refByte n b := by
  unfold crcByte refByte
  rw [half_ref, half_ref]
  rfl
theorem crcRun_ref : ∀ (l : List UInt8) (n : Nat), crcRun n l = refRun n l
  | [], _ => rfl
  | b :: r, n => by
    show crcRun (crcByte n b) r = refRun (refByte n b) r
    rw [crcByte_ref, crcRun_ref r]
theorem crcUpd_ref (s : Nat) (l : List UInt8) : crcUpd s l = refUpd s l := by unfold crcUpd refUpd; rw [crcRun_ref]
end Go.Proofs.Ytbpodmgogokpiaa
