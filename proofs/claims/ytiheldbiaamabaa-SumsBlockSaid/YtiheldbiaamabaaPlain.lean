/- Plain laws of layer 1: padding is injective, a sum goes on over parts, bytes with their own sum behind, a state's text is a digest. -/
import Derived.Test.YtiheldbiaamabaaCrcLaw
import Derived.Test.YtiheldbiaamabaaDigest
namespace Go.Proofs.Ytiheldbiaamabaa
set_option linter.unusedVariables false

theorem be8_inj {n m : Nat} (hn : n < 4294967296) (hm : m < 4294967296) (h : be8 n = be8 m) : n = m := by
  simp only [be8, List.cons.injEq, and_true] at h
  obtain ⟨_, _, _, _, h4, h5, h6, h7⟩ := h
  have e4 := congrArg UInt8.toNat h4
  have e5 := congrArg UInt8.toNat h5
  have e6 := congrArg UInt8.toNat h6
  have e7 := congrArg UInt8.toNat h7
  simp at e4 e5 e6 e7
  omega
theorem padded_inj {l m : List UInt8} (hl : l.length ≤ 100000) (hm : m.length ≤ 100000) (h : padded l = padded m) : l = m := by
  have h1 := h
  unfold padded at h1
  have hlast : be8 (l.length * 8) = be8 (m.length * 8) := by
    exact (List.append_inj' h1 rfl).2
  have hlen : l.length = m.length := by
    have := be8_inj (by omega) (by omega) hlast
    omega
  have e := congrArg (List.take l.length) h1
  have t1 : List.take l.length (l ++ [128] ++ List.replicate (zerosOf l.length) 0 ++ be8 (l.length * 8)) = l := by
    rw [List.append_assoc, List.append_assoc, List.take_left]
  have t2 : List.take l.length (m ++ [128] ++ List.replicate (zerosOf m.length) 0 ++ be8 (m.length * 8)) = m := by
    rw [hlen, List.append_assoc, List.append_assoc, List.take_left]
  rw [t1, t2] at e
  exact e
theorem padded_front (l : List UInt8) : (padded l).take l.length = l := by
  unfold padded
  rw [List.append_assoc, List.append_assoc, List.take_left]
theorem crc_parts (a b : List UInt8) : crcUpd (crcUpd 0 a) b = crcUpd 0 (a ++ b) := by
  unfold crcUpd crcRun
  rw [List.foldl_append, Nat.xor_assoc, Nat.xor_self, Nat.xor_zero]
theorem xor_low (q : Nat) : q ^^^ q % 256 = 256 * (q / 256) := by
  have hd : (q ^^^ q % 256) / 256 = q / 256 := by
    have := Nat.xor_div_two_pow (a := q) (b := q % 256) (n := 8)
    rw [show (2 : Nat) ^ 8 = 256 from rfl] at this
    rw [this, Nat.div_eq_of_lt (Nat.mod_lt q (by decide)), Nat.xor_zero]
  have hm : (q ^^^ q % 256) % 256 = 0 := by
    have := Nat.xor_mod_two_pow (a := q) (b := q % 256) (n := 8)
    rw [show (2 : Nat) ^ 8 = 256 from rfl] at this
    rw [this, Nat.mod_mod, Nat.xor_self]
  omega
theorem refBits8_256 (q : Nat) : refBits 8 (256 * q) = q := by
  simp only [refBits]
  rw [show 256 * q = 2 * (2 * (2 * (2 * (2 * (2 * (2 * (2 * q))))))) by omega]
  simp only [refBit_even]
theorem res_step (q C : Nat) : refBits 8 (q ^^^ C ^^^ (q % 256 ^^^ 255)) = q / 256 ^^^ refBits 8 (255 ^^^ C) := by
  have e : q ^^^ C ^^^ (q % 256 ^^^ 255) = 256 * (q / 256) ^^^ (255 ^^^ C) := by
    rw [← xor_low q]
    simp only [Nat.xor_assoc]
    congr 1
    rw [xlc C (q % 256), Nat.xor_comm C 255]
  rw [e, refBits_xor, refBits8_256]
theorem byte_xor (n k : Nat) : (UInt8.ofNat ((n ^^^ 4294967295) / 2 ^ (8 * k))).toNat = n / 2 ^ (8 * k) % 256 ^^^ 4294967295 / 2 ^ (8 * k) % 256 := by
  have h1 : (UInt8.ofNat ((n ^^^ 4294967295) / 2 ^ (8 * k))).toNat = (n ^^^ 4294967295) / 2 ^ (8 * k) % 256 := by simp
  rw [h1, Nat.xor_div_two_pow]
  have := Nat.xor_mod_two_pow (a := n / 2 ^ (8 * k)) (b := 4294967295 / 2 ^ (8 * k)) (n := 8)
  rw [show (2 : Nat) ^ 8 = 256 from rfl] at this
  exact this
theorem residue (l : List UInt8) : crcUpd 0 (l ++ le4 (crcUpd 0 l)) = 558161692 := by
  rw [crcUpd_ref, crcUpd_ref]
  unfold refUpd
  rw [Nat.zero_xor]
  have hlt : refRun 4294967295 l < 4294967296 := refRun_lt l _ (by decide)
  have hrun : refRun 4294967295 (l ++ le4 (refRun 4294967295 l ^^^ 4294967295)) = refRun (refRun 4294967295 l) (le4 (refRun 4294967295 l ^^^ 4294967295)) := by
    unfold refRun; rw [List.foldl_append]
  rw [hrun]
  generalize refRun 4294967295 l = n at *
  have b0 := byte_xor n 0
  have b1 := byte_xor n 1
  have b2 := byte_xor n 2
  have b3 := byte_xor n 3
  simp only [Nat.mul_zero, Nat.mul_one, Nat.pow_zero, Nat.div_one, Nat.reduceMul, Nat.reducePow, Nat.reduceDiv, Nat.reduceMod] at b0 b1 b2 b3
  have s0 := res_step n 0
  have s1 := res_step (n / 256) (refBits 8 (255 ^^^ 0))
  have s2 := res_step (n / 65536) (refBits 8 (255 ^^^ refBits 8 (255 ^^^ 0)))
  have s3 := res_step (n / 16777216) (refBits 8 (255 ^^^ refBits 8 (255 ^^^ refBits 8 (255 ^^^ 0))))
  rw [Nat.xor_zero] at s0
  rw [show n / 256 / 256 = n / 65536 by omega] at s1
  rw [show n / 65536 / 256 = n / 16777216 by omega] at s2
  rw [show n / 16777216 / 256 = 0 by omega, Nat.zero_xor] at s3
  have e : refRun n (le4 (n ^^^ 4294967295)) = refBits 8 (255 ^^^ refBits 8 (255 ^^^ refBits 8 (255 ^^^ refBits 8 (255 ^^^ 0)))) := by
    unfold le4 refRun refByte
    simp only [List.foldl_cons, List.foldl_nil]
    rw [b0, b1, b2, b3, s0, s1, s2, s3]
  rw [e]
  decide +kernel
theorem hexc_hex : ∀ d, d < 16 → hexB (hexc d) = true := by decide
theorem text_dig (s : St) : isDig (textOf s) = true := by
  unfold isDig textOf
  simp only [List.all_map, List.length_map, List.length_range, Bool.and_eq_true, List.all_eq_true, List.mem_range, beq_self_eq_true, and_true]
  intro i _
  exact hexc_hex _ (Nat.mod_lt _ (by decide))
end Go.Proofs.Ytiheldbiaamabaa
