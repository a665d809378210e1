/- The walks of layer 1's numbers (package sums: Crc, Bytes, Of; the document's Update, Crc, Bytes, Of; the law's num, lent, kept). Conditions: those of each theorem. -/
import Derived.Test.YthfgblchlgodmaaSumsA
import Derived.LoopN
namespace Go.Proofs.Ythfgblchlgodmaa
open Go.RowKit
set_option linter.unusedVariables false

def le4 (n : Nat) : List UInt8 := [UInt8.ofNat n, UInt8.ofNat (n / 256), UInt8.ofNat (n / 65536), UInt8.ofNat (n / 16777216)]

theorem le4_cells (n : Nat) (hn : n < 4294967296) : (bvs (le4 n)).toArray = #[.int .u8 ((n : Int) % 256), .int .u8 ((n : Int) / 256 % 256), .int .u8 ((n : Int) / 65536 % 256), .int .u8 ((n : Int) / 16777216)] := by
  have h : ∀ k : Nat, ((UInt8.ofNat k).toNat : Int) = ((k : Nat) : Int) % 256 := fun k => by simp
  have h1 : (((n / 16777216 : Nat) : Int)) % 256 = (n : Int) / 16777216 := by omega
  simp only [le4, bvs, List.map_cons, List.map_nil, h, h1]
  rfl

/-- of four bytes -/
def of4 (l : List UInt8) : Nat := (l.getD 0 0).toNat ||| (l.getD 1 0).toNat * 256 ||| (l.getD 2 0).toNat * 65536 ||| (l.getD 3 0).toNat * 16777216

theorem or32 {a b : Int} {x y : Nat} (ha : a = (x : Int)) (hb : b = (y : Int)) (hx : x < 4294967296) (hy : y < 4294967296) :
    bits .or .u32 a b = ((x ||| y : Nat) : Int) ∧ x ||| y < 4294967296 := by
  subst ha; subst hb
  exact ⟨u32_or_nat x y hx hy, Nat.or_lt_two_pow (n := 32) hx hy⟩
theorem of4_bits (x0 x1 x2 x3 : UInt8) : bits .or .u32 (bits .or .u32 (bits .or .u32 ((x0.toNat : Int) % 4294967296) ((x1.toNat : Int) % 4294967296 * 256 % 4294967296)) ((x2.toNat : Int) % 4294967296 * 65536 % 4294967296)) ((x3.toNat : Int) % 4294967296 * 16777216 % 4294967296) =
    ((x0.toNat ||| x1.toNat * 256 ||| x2.toNat * 65536 ||| x3.toNat * 16777216 : Nat) : Int) := by
  have h0 := x0.toNat_lt
  have h1 := x1.toNat_lt
  have h2 := x2.toNat_lt
  have h3 := x3.toNat_lt
  obtain ⟨e1, b1⟩ := or32 (a := (x0.toNat : Int) % 4294967296) (b := (x1.toNat : Int) % 4294967296 * 256 % 4294967296) (x := x0.toNat) (y := x1.toNat * 256) (by omega) (by omega) (by omega) (by omega)
  obtain ⟨e2, b2⟩ := or32 (b := (x2.toNat : Int) % 4294967296 * 65536 % 4294967296) (y := x2.toNat * 65536) e1 (by omega) b1 (by omega)
  exact (or32 (b := (x3.toNat : Int) % 4294967296 * 16777216 % 4294967296) (y := x3.toNat * 16777216) e2 (by omega) b2 (by omega)).1
theorem of4_bits0 (x0 x1 x2 x3 : UInt8) : bits .or .u32 (bits .or .u32 (bits .or .u32 (bits .or .u32 0 ((x0.toNat : Int) % 4294967296)) ((x1.toNat : Int) % 4294967296 * 256 % 4294967296)) ((x2.toNat : Int) % 4294967296 * 65536 % 4294967296)) ((x3.toNat : Int) % 4294967296 * 16777216 % 4294967296) =
    ((x0.toNat ||| x1.toNat * 256 ||| x2.toNat * 65536 ||| x3.toNat * 16777216 : Nat) : Int) := by
  have h0 := x0.toNat_lt
  have e := (or32 (a := 0) (b := (x0.toNat : Int) % 4294967296) (x := 0) (y := x0.toNat) rfl (by omega) (by decide) (by omega)).1
  rw [e, Nat.zero_or, ← of4_bits x0 x1 x2 x3]
  congr 3
  omega

/-- four bytes of a slice -/
theorem Reads.four {w : World} {B : Nat} {A : Option Addr} {n : Nat} {l : List UInt8} (hr : Reads w B 1 A n (bvs l)) (hn : 4 ≤ n) :
    ∃ b o, A = some ⟨b, o, none⟩ ∧ b < B ∧ w.cell? ⟨b, o, none⟩ = some (.int .u8 ((l.getD 0 0).toNat : Int)) ∧ w.cell? ⟨b, o + 1, none⟩ = some (.int .u8 ((l.getD 1 0).toNat : Int)) ∧
      w.cell? ⟨b, o + 2, none⟩ = some (.int .u8 ((l.getD 2 0).toNat : Int)) ∧ w.cell? ⟨b, o + 3, none⟩ = some (.int .u8 ((l.getD 3 0).toNat : Int)) := by
  obtain ⟨b, o, rfl, hb, h0⟩ := hr.byte (k := 0) (by omega)
  obtain ⟨b', o', e1, _, h1⟩ := hr.byte (k := 1) (by omega)
  obtain ⟨rfl, rfl⟩ : b = b' ∧ o = o' := by simpa using e1
  obtain ⟨b', o', e2, _, h2⟩ := hr.byte (k := 2) (by omega)
  obtain ⟨rfl, rfl⟩ : b = b' ∧ o = o' := by simpa using e2
  obtain ⟨b', o', e3, _, h3⟩ := hr.byte (k := 3) (by omega)
  obtain ⟨rfl, rfl⟩ : b = b' ∧ o = o' := by simpa using e3
  exact ⟨b, o, rfl, hb, h0, h1, h2, h3⟩

end Go.Proofs.Ythfgblchlgodmaa
