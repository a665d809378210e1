/- The walks of layer 1's small functions for the digest (RotateLeft32, rules and its functions, Start; the document's turned, round, Start). Conditions: those of each theorem. -/
import Derived.Test.YthfgblchlgodmaaRefA
namespace Go.Proofs.Ythfgblchlgodmaa
open Go.RowKit
set_option linter.unusedVariables false

def rotl (x k : Nat) : Nat := x * 2 ^ k % 4294967296 ||| x / 2 ^ (32 - k)
theorem rotl_lt (x k : Nat) (hx : x < 4294967296) : rotl x k < 4294967296 :=
  Nat.or_lt_two_pow (n := 32) (Nat.mod_lt _ (by decide)) (Nat.lt_of_le_of_lt (Nat.div_le_self _ _) hx)

theorem and32 {a b : Int} {x y : Nat} (ha : a = (x : Int)) (hb : b = (y : Int)) (hx : x < 4294967296) (hy : y < 4294967296) :
    bits .and .u32 a b = ((x &&& y : Nat) : Int) ∧ x &&& y < 4294967296 := by
  subst ha; subst hb
  exact ⟨u32_and_nat x y hx hy, Nat.and_lt_two_pow (n := 32) _ hy⟩
theorem xor32 {a b : Int} {x y : Nat} (ha : a = (x : Int)) (hb : b = (y : Int)) (hx : x < 4294967296) (hy : y < 4294967296) :
    bits .xor .u32 a b = ((x ^^^ y : Nat) : Int) ∧ x ^^^ y < 4294967296 := by
  subst ha; subst hb
  exact ⟨u32_xor_nat x y hx hy, Nat.xor_lt_two_pow (n := 32) hx hy⟩
theorem or64 {a b : Int} {x y : Nat} (ha : a = (x : Int)) (hb : b = (y : Int)) (hx : x < 18446744073709551616) (hy : y < 18446744073709551616) :
    bits .or .u64 a b = ((x ||| y : Nat) : Int) ∧ x ||| y < 18446744073709551616 := by
  subst ha; subst hb
  exact ⟨u64_or_nat x y hx hy, Nat.or_lt_two_pow (n := 64) hx hy⟩
theorem and64 {a b : Int} {x y : Nat} (ha : a = (x : Int)) (hb : b = (y : Int)) (hx : x < 18446744073709551616) (hy : y < 18446744073709551616) :
    bits .and .u64 a b = ((x &&& y : Nat) : Int) ∧ x &&& y < 18446744073709551616 := by
  subst ha; subst hb
  exact ⟨u64_and_nat x y hx hy, Nat.and_lt_two_pow (n := 64) _ hy⟩
theorem xor64' {a b : Int} {x y : Nat} (ha : a = (x : Int)) (hb : b = (y : Int)) (hx : x < 4294967296) (hy : y < 4294967296) :
    bits .xor .u64 a b = ((x ^^^ y : Nat) : Int) ∧ x ^^^ y < 4294967296 := ⟨xor64 ha hb hx hy, Nat.xor_lt_two_pow (n := 32) hx hy⟩

theorem rot_bits (x k : Nat) (hx : x < 4294967296) {a b : Int} (ha : a = ((x * 2 ^ k : Nat) : Int) % 4294967296) (hb : b = ((x / 2 ^ (32 - k) : Nat) : Int)) :
    bits .or .u32 a b = ((rotl x k : Nat) : Int) :=
  (or32 (x := x * 2 ^ k % 4294967296) (y := x / 2 ^ (32 - k)) (by rw [ha]; omega) hb (Nat.mod_lt _ (by decide)) (Nat.lt_of_le_of_lt (Nat.div_le_self _ _) hx)).1
theorem turn_bits (x k : Nat) (hx : x < 4294967296) (hk : k ≤ 32) {a b : Int} (ha : a = ((x * 2 ^ k : Nat) : Int)) (hb : b = ((x / 2 ^ (32 - k) : Nat) : Int)) :
    bits .and .u64 (bits .or .u64 a b) 4294967295 = ((rotl x k : Nat) : Int) := by
  have h1 : x * 2 ^ k < 18446744073709551616 := by
    have : 2 ^ k ≤ 2 ^ 32 := Nat.pow_le_pow_right (by decide) hk
    have : x * 2 ^ k ≤ x * 2 ^ 32 := Nat.mul_le_mul_left _ this
    omega
  have h2 : x / 2 ^ (32 - k) < 4294967296 := Nat.lt_of_le_of_lt (Nat.div_le_self _ _) hx
  obtain ⟨e, _⟩ := or64 ha hb h1 (by omega)
  rw [(and64 (b := 4294967295) (y := 4294967295) e rfl (Nat.or_lt_two_pow (n := 64) h1 (by omega)) (by decide)).1]
  rw [show (4294967295 : Nat) = 2 ^ 32 - 1 from rfl, Nat.and_two_pow_sub_one_eq_mod, Nat.or_mod_two_pow, Nat.mod_eq_of_lt (a := x / 2 ^ (32 - k)) h2]
  rfl

theorem rot1_any (x : Nat) (hx : x < 4294967296) (w : World) :
    Calls Try.prog 69 #[.int .u32 x, .int .i64 1] w fun e w' => e = .returned (.int .u32 (rotl x 1 : Nat)) ∧ w' = w := by
  have hk : bits BinOp.and IntKind.u64 1 31 = 1 := by decide
  have hv := rot_bits x 1 hx (a := (x : Int) * 2 % 4294967296) (b := (x : Int) / 2147483648) (by omega) (by omega)
  have HV := hide hv
  clear hv
  go_enter Try.func69, Try.ntmps69
  go_wp2_with fail
  go_ret
  exact ⟨ret_int HV.out, rfl⟩
theorem turned1_any (x : Nat) (hx : x < 4294967296) (w : World) :
    Calls Try.prog 63 #[.int .u64 x, .int .i64 1] w fun e w' => e = .returned (.int .u64 (rotl x 1 : Nat)) ∧ ∃ m, w' = w.drewN m := by
  have hv := turn_bits x 1 hx (by decide) (a := (x : Int) * 2) (b := (x : Int) / 2147483648) (by omega) (by omega)
  have HV := hide hv
  clear hv
  go_enter Try.func63, Try.ntmps63
  go_wp2_with fail
  go_quiet (fail)
  go_wp2_with fail
  go_ret
  exact ⟨ret_int HV.out, _, rfl⟩
theorem rot5_any (x : Nat) (hx : x < 4294967296) (w : World) :
    Calls Try.prog 69 #[.int .u32 x, .int .i64 5] w fun e w' => e = .returned (.int .u32 (rotl x 5 : Nat)) ∧ w' = w := by
  have hk : bits BinOp.and IntKind.u64 5 31 = 5 := by decide
  have hv := rot_bits x 5 hx (a := (x : Int) * 32 % 4294967296) (b := (x : Int) / 134217728) (by omega) (by omega)
  have HV := hide hv
  clear hv
  go_enter Try.func69, Try.ntmps69
  go_wp2_with fail
  go_ret
  exact ⟨ret_int HV.out, rfl⟩
theorem turned5_any (x : Nat) (hx : x < 4294967296) (w : World) :
    Calls Try.prog 63 #[.int .u64 x, .int .i64 5] w fun e w' => e = .returned (.int .u64 (rotl x 5 : Nat)) ∧ ∃ m, w' = w.drewN m := by
  have hv := turn_bits x 5 hx (by decide) (a := (x : Int) * 32) (b := (x : Int) / 134217728) (by omega) (by omega)
  have HV := hide hv
  clear hv
  go_enter Try.func63, Try.ntmps63
  go_wp2_with fail
  go_quiet (fail)
  go_wp2_with fail
  go_ret
  exact ⟨ret_int HV.out, _, rfl⟩
theorem rot30_any (x : Nat) (hx : x < 4294967296) (w : World) :
    Calls Try.prog 69 #[.int .u32 x, .int .i64 30] w fun e w' => e = .returned (.int .u32 (rotl x 30 : Nat)) ∧ w' = w := by
  have hk : bits BinOp.and IntKind.u64 30 31 = 30 := by decide
  have hv := rot_bits x 30 hx (a := (x : Int) * 1073741824 % 4294967296) (b := (x : Int) / 4) (by omega) (by omega)
  have HV := hide hv
  clear hv
  go_enter Try.func69, Try.ntmps69
  go_wp2_with fail
  go_ret
  exact ⟨ret_int HV.out, rfl⟩
theorem turned30_any (x : Nat) (hx : x < 4294967296) (w : World) :
    Calls Try.prog 63 #[.int .u64 x, .int .i64 30] w fun e w' => e = .returned (.int .u64 (rotl x 30 : Nat)) ∧ ∃ m, w' = w.drewN m := by
  have hv := turn_bits x 30 hx (by decide) (a := (x : Int) * 1073741824) (b := (x : Int) / 4) (by omega) (by omega)
  have HV := hide hv
  clear hv
  go_enter Try.func63, Try.ntmps63
  go_wp2_with fail
  go_quiet (fail)
  go_wp2_with fail
  go_ret
  exact ⟨ret_int HV.out, _, rfl⟩

/-- f of the first rule -/
def chF (b c d : Nat) : Nat := b &&& c ||| (4294967295 - b) &&& d
def parF (b c d : Nat) : Nat := b ^^^ c ^^^ d
def majF (b c d : Nat) : Nat := b &&& c ||| b &&& d ||| c &&& d
def rndF (q b c d : Nat) : Nat := if q = 0 then chF b c d else if q = 1 then parF b c d else if q = 2 then majF b c d else parF b c d
def rndK (q : Nat) : Nat := if q = 0 then 1518500249 else if q = 1 then 1859775393 else if q = 2 then 2400959708 else 3395469782
theorem u32_not' (a : Nat) (ha : a < 4294967296) : bits .xor .u32 IntKind.u32.max (a : Int) = ((4294967295 - a : Nat) : Int) := by
  rw [show IntKind.u32.max = (4294967295 : Int) from rfl, u32_not a ha]
  congr 1
  have := BitVec.toNat_not (x := BitVec.ofNat 32 a)
  have h2 : (BitVec.ofNat 32 a).toNat = a := by simp; omega
  rw [h2] at this
  have h3 : (~~~(BitVec.ofNat 32 a)).toNat = a ^^^ 4294967295 := by
    rw [← BitVec.xor_allOnes, BitVec.toNat_xor, h2, BitVec.toNat_allOnes]
  rw [← h3, this]

theorem rule2_any (b c d : Nat) (hb : b < 4294967296) (hc : c < 4294967296) (hd : d < 4294967296) (w : World) :
    Calls Try.prog 74 #[.int .u32 b, .int .u32 c, .int .u32 d] w fun e w' => e = .returned (.int .u32 (chF b c d : Nat)) ∧ w' = w := by
  have hv : bits .or .u32 (bits .and .u32 (b : Int) (c : Int)) (bits .and .u32 (bits .xor .u32 IntKind.u32.max (b : Int)) (d : Int)) = ((chF b c d : Nat) : Int) := by
    obtain ⟨e1, l1⟩ := and32 (a := (b : Int)) (b := (c : Int)) rfl rfl hb hc
    obtain ⟨e2, l2⟩ := and32 (b := (d : Int)) (u32_not' b hb) rfl (by omega) hd
    exact (or32 e1 e2 l1 l2).1
  have HV := hide hv
  clear hv
  go_enter Try.func74, Try.ntmps74
  go_wp2_with fail
  go_ret
  exact ⟨ret_int HV.out, rfl⟩
theorem rule1_any (b c d : Nat) (hb : b < 4294967296) (hc : c < 4294967296) (hd : d < 4294967296) (w : World) :
    Calls Try.prog 73 #[.int .u32 b, .int .u32 c, .int .u32 d] w fun e w' => e = .returned (.int .u32 (parF b c d : Nat)) ∧ w' = w := by
  have hv : bits .xor .u32 (bits .xor .u32 (b : Int) (c : Int)) (d : Int) = ((parF b c d : Nat) : Int) := by
    obtain ⟨e1, l1⟩ := xor32 (a := (b : Int)) (b := (c : Int)) rfl rfl hb hc
    exact (xor32 e1 rfl l1 hd).1
  have HV := hide hv
  clear hv
  go_enter Try.func73, Try.ntmps73
  go_wp2_with fail
  go_ret
  exact ⟨ret_int HV.out, rfl⟩
theorem rule3_any (b c d : Nat) (hb : b < 4294967296) (hc : c < 4294967296) (hd : d < 4294967296) (w : World) :
    Calls Try.prog 75 #[.int .u32 b, .int .u32 c, .int .u32 d] w fun e w' => e = .returned (.int .u32 (majF b c d : Nat)) ∧ w' = w := by
  have hv : bits .or .u32 (bits .or .u32 (bits .and .u32 (b : Int) (c : Int)) (bits .and .u32 (b : Int) (d : Int))) (bits .and .u32 (c : Int) (d : Int)) = ((majF b c d : Nat) : Int) := by
    obtain ⟨e1, l1⟩ := and32 (a := (b : Int)) (b := (c : Int)) rfl rfl hb hc
    obtain ⟨e2, l2⟩ := and32 (a := (b : Int)) (b := (d : Int)) rfl rfl hb hd
    obtain ⟨e3, l3⟩ := and32 (a := (c : Int)) (b := (d : Int)) rfl rfl hc hd
    obtain ⟨e4, l4⟩ := or32 e1 e2 l1 l2
    exact (or32 e4 e3 l4 l3).1
  have HV := hide hv
  clear hv
  go_enter Try.func75, Try.ntmps75
  go_wp2_with fail
  go_ret
  exact ⟨ret_int HV.out, rfl⟩

/-- the five words of a state, as cells -/
structure St where
  a : Nat
  b : Nat
  c : Nat
  d : Nat
  e : Nat
def St.cells (s : St) : Array Value := #[.int .u32 s.a, .int .u32 s.b, .int .u32 s.c, .int .u32 s.d, .int .u32 s.e]
def St.fits (s : St) : Prop := s.a < 4294967296 ∧ s.b < 4294967296 ∧ s.c < 4294967296 ∧ s.d < 4294967296 ∧ s.e < 4294967296
def start : St := ⟨1732584193, 4023233417, 2562383102, 271733878, 3285377520⟩
theorem start_any (w : World) : Calls Try.prog 56 #[] w fun e w' => e = .returned (.agg start.cells) ∧ Below w.heap.size w w' := by
  go_enter Try.func56, Try.ntmps56
  go_wp2_with fail
  refine bodyPost_ret (v := .agg start.cells) (by simp [results, Try.results56, go_sem, start, St.cells]) rfl ⟨rfl, (Below.refl _ _).alloc (Nat.le_refl _) _⟩
theorem rstart_any (w : World) : Calls Try.prog 52 #[] w fun e w' => e = .returned (.agg start.cells) ∧ Below w.heap.size w w' := by
  go_enter Try.func52, Try.ntmps52
  go_wp2_with fail
  refine bodyPost_ret (v := .agg start.cells) (by simp [results, Try.results52, go_sem, start, St.cells]) rfl ⟨rfl, (Below.refl _ _).alloc (Nat.le_refl _) _⟩

/-- the four rules, as cells -/
def ruleCells : Array Value := #[.func (.func 74) #[] #[], .int .u32 1518500249, .func (.func 73) #[] #[], .int .u32 1859775393, .func (.func 75) #[] #[], .int .u32 2400959708, .func (.func 73) #[] #[], .int .u32 3395469782]
theorem rules_any (w : World) : Calls Try.prog 68 #[] w fun e w' => e = .returned (.agg ruleCells) ∧ Below w.heap.size w w' := by
  go_enter Try.func68, Try.ntmps68
  go_wp2_with fail
  refine bodyPost_ret (v := .agg ruleCells) (by simp [results, Try.results68, go_sem, ruleCells]) rfl ⟨rfl, (Below.refl _ _).alloc (Nat.le_refl _) _⟩
end Go.Proofs.Ythfgblchlgodmaa
