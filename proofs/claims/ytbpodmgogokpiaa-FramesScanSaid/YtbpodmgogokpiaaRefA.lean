/- The walks of the document's sums (package taborref01: Update, Crc) and of the law's own lent and kept. Conditions: those of each theorem. -/
import Derived.Test.YtbpodmgogokpiaaSumsB
namespace Go.Proofs.Ytbpodmgogokpiaa
open Go.RowKit
set_option linter.unusedVariables false

def refBit (n : Nat) : Nat := if n % 2 = 1 then n / 2 ^^^ 3988292384 else n / 2
def refBits : Nat → Nat → Nat
  | 0, n => n
  | k + 1, n => refBit (refBits k n)
def refByte (n : Nat) (b : UInt8) : Nat := refBits 8 (n ^^^ b.toNat)
def refRun (n : Nat) (l : List UInt8) : Nat := l.foldl refByte n
def refUpd (s : Nat) (l : List UInt8) : Nat := refRun (s ^^^ 4294967295) l ^^^ 4294967295

theorem refBit_lt (n : Nat) (h : n < 4294967296) : refBit n < 4294967296 := by
  unfold refBit
  split
  · exact Nat.xor_lt_two_pow (n := 32) (by omega) (by decide)
  · omega
theorem refBits_lt (n : Nat) (h : n < 4294967296) : ∀ k, refBits k n < 4294967296
  | 0 => h
  | k + 1 => refBit_lt _ (refBits_lt n h k)
theorem refByte_lt (n : Nat) (b : UInt8) (h : n < 4294967296) : refByte n b < 4294967296 :=
  refBits_lt _ (Nat.xor_lt_two_pow (n := 32) h (by have := b.toNat_lt; omega)) 8
theorem refRun_lt (l : List UInt8) : ∀ n, n < 4294967296 → refRun n l < 4294967296 := by
  induction l with
  | nil => intro n h; exact h
  | cons b l ih => intro n h; exact ih _ (refByte_lt n b h)
theorem refRun_snoc (n : Nat) (l : List UInt8) (k : Nat) (h : k < l.length) : refRun n (l.take (k + 1)) = refByte (refRun n (l.take k)) (l.getD k 0) := by
  rw [List.take_succ_eq_append_getElem h]
  rw [refRun, List.foldl_append]
  simp [refRun, List.getD_eq_getElem?_getD, h]
theorem xor64 {a b : Int} {x y : Nat} (ha : a = (x : Int)) (hb : b = (y : Int)) (hx : x < 4294967296) (hy : y < 4294967296) : bits .xor .u64 a b = ((x ^^^ y : Nat) : Int) := by
  subst ha; subst hb
  exact u64_xor_nat x y (by omega) (by omega)

set_option maxHeartbeats 400000 in
theorem rupdate_any (s : Nat) (hs : s < 4294967296) (A : Option Addr) (n c : Nat) (l : List UInt8) (w : World) {B : Nat} (hr : Reads w B 1 A n (bvs l)) (hn : n ≤ maxLen) :
    Calls Try.prog 45 #[.int .u32 s, .slice A n c] w fun e w' => e = .returned (.int .u32 (refUpd s l : Nat)) ∧ w = w' := by
  have hn : n ≤ 9223372036854775807 := hn
  have hs1 : (s : Int) % 18446744073709551616 = (s : Int) := by omega
  have hs2 : bits .xor .u64 (s : Int) 4294967295 = ((s ^^^ 4294967295 : Nat) : Int) := xor64 rfl rfl hs (by decide)
  go_enter Try.func45, Try.ntmps45
  go_wp2_with fail
  clear hs1 hs2
  go_loop [5, 6, 7, 8] (fun x i _ _ => ∃ k : Nat, k ≤ n ∧ i = .int .i64 k ∧ x = .int .u64 (refRun (s ^^^ 4294967295) (l.take k) : Nat)) (fun _ i _ _ => n - (intOf i).toNat)
  case atStart => exact ⟨0, Nat.zero_le _, rfl, by simp [refRun]⟩
  case round =>
    obtain ⟨k, hk, rfl, rfl⟩ := hrel
    have hlt0 := refRun_lt (l.take k) (s ^^^ 4294967295) (Nat.xor_lt_two_pow (n := 32) hs (by decide))
    have hsn := refRun_snoc (s ^^^ 4294967295) l k
    generalize hxx : refRun (s ^^^ 4294967295) (l.take k) = x at *
    have hx0 := hide hxx
    have HS := hide hsn
    clear hsn hxx
    by_cases hkn : k < n
    · have hkn' : (k : Int) < (n : Int) := by omega
      have hl := hr.blen
      obtain ⟨b, o, rfl, hbb, hcell⟩ := hr.byte hkn
      have HS1 := hide (HS.out (by omega))
      clear hr hl HS
      generalize l.getD k 0 = y at *
      have hy := y.toNat_lt
      have hy1 : (y.toNat : Int) % 18446744073709551616 = (y.toNat : Int) := by omega
      have hz : bits .xor .u64 (x : Int) (y.toNat : Int) = ((x ^^^ y.toNat : Nat) : Int) := xor64 rfl rfl hlt0 (by omega)
      have hzl : x ^^^ y.toNat < 4294967296 := Nat.xor_lt_two_pow (n := 32) hlt0 (by omega)
      have HR : Hid (refByte x y = refBits 8 (x ^^^ y.toNat)) := rfl
      generalize x ^^^ y.toNat = z at *
      clear hy
      go_wp2_with fail
      clear hz hy1 hcell
      go_loop [5, 7, 8] (fun x i _ => ∃ j : Nat, j ≤ 8 ∧ i = .int .i64 j ∧ x = .int .u64 (refBits j z : Nat)) (fun _ i _ => 8 - (intOf i).toNat)
      case atStart => exact ⟨0, Nat.zero_le _, rfl, rfl⟩
      case round =>
        obtain ⟨j, hj, rfl, rfl⟩ := hrel
        have hr0 := refBits_lt z hzl j
        have hr1 : Hid (refBits (j + 1) z = refBit (refBits j z)) := rfl
        generalize hqq : refBits j z = q at *
        have hq := hide hqq
        clear hqq
        by_cases hj8 : j < 8
        · have hj8' : (j : Int) < 8 := by omega
          by_cases hodd : q % 2 = 1
          · have ho : ((q : Int) % 2 == 1) = true := by simp; omega
            have hx : bits .xor .u64 ((q : Int) / 2) 3988292384 = ((refBit q : Nat) : Int) := by
              unfold refBit; rw [if_pos hodd]; exact xor64 (y := 3988292384) (by omega) rfl (by omega) (by decide)
            clear hodd
            go_wp2_with fail
            go_round
            case rel => exact ⟨j + 1, by omega, by go_num, by rw [hr1.out]⟩
            case measure => simp [intOf]; omega
          · have ho : ((q : Int) % 2 == 1) = false := by simp; omega
            have hx : (((refBit q : Nat) : Int)) = (q : Int) / 2 := by unfold refBit; rw [if_neg hodd]; omega
            have hx := hide hx
            clear hodd
            go_wp2_with fail
            go_round
            case rel => exact ⟨j + 1, by omega, by go_num, by rw [hr1.out, hx.out]⟩
            case measure => simp [intOf]; omega
        · have hj8' : ¬ (j : Int) < 8 := by omega
          have he : j = 8 := by omega
          subst he
          go_wp2_with fail
          go_round
          case rel => exact ⟨k + 1, by omega, by go_num, by rw [HS1.out, HR.out, hq.out]⟩
          case measure => simp [intOf]; omega
    · have hk' : ¬ (k : Int) < (n : Int) := by omega
      have hl := hr.blen
      have he : bits .xor .u64 (x : Int) 4294967295 = ((x ^^^ 4294967295 : Nat) : Int) := xor64 rfl rfl hlt0 (by decide)
      have he1 : ((x ^^^ 4294967295 : Nat) : Int) % 4294967296 = ((x ^^^ 4294967295 : Nat) : Int) := by
        have : x ^^^ 4294967295 < 4294967296 := Nat.xor_lt_two_pow (n := 32) hlt0 (by decide)
        omega
      have hl' := hide hl
      clear hl
      go_wp2_with fail
      go_ret
      have hx1 := hx0.out
      have hl := hl'.out
      rw [List.take_of_length_le (by omega)] at hx1
      refine ⟨ret_int ?_, rfl⟩
      unfold refUpd; rw [hx1]

theorem rcrc_any (A : Option Addr) (n c : Nat) (l : List UInt8) (w : World) {B : Nat} (hr : Reads w B 1 A n (bvs l)) (hn : n ≤ maxLen) :
    Calls Try.prog 30 #[.slice A n c] w fun e w' => e = .returned (.int .u32 (refUpd 0 l : Nat)) ∧ w = w' := by
  have H := hide (rupdate_any 0 (by decide) A n c l w hr hn)
  go_enter Try.func30, Try.ntmps30
  go_wp2_with (first | (go_at_call 45; refine (H.out).mono ?_; rintro e w' ⟨rfl, rfl⟩))
  go_ret
  exact ⟨rfl, rfl⟩

theorem u8_ok : ElemOk Try.prog 5 1 1 (.int .u8 0) := elemOk (by kernel_rfl) rfl (by decide)

end Go.Proofs.Ytbpodmgogokpiaa
