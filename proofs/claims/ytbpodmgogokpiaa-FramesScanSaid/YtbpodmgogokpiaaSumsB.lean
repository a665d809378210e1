/- The walks of layer 1's numbers (package sums: Crc, Bytes, Of; the document's Update, Crc, Bytes, Of; the law's num, lent, kept). Conditions: those of each theorem. -/
import Derived.Test.YtbpodmgogokpiaaSumsA
import Derived.LoopN
namespace Go.Proofs.Ytbpodmgogokpiaa
open Go.RowKit
set_option linter.unusedVariables false

theorem crc_any (A : Option Addr) (n c : Nat) (l : List UInt8) (w : World) (hr : Reads w w.heap.size 1 A n (bvs l)) (hn : n ≤ maxLen) :
    Calls Try.prog 44 #[.slice A n c] w fun e w' => e = .returned (.int .u32 (crcUpd 0 l : Nat)) ∧ Below w.heap.size w w' := by
  have h0 := update_any 0 (by decide) A n c l w hr hn
  have H := hide h0
  clear h0
  go_enter Try.func44, Try.ntmps44
  go_wp2_with (first | (go_at_call 43; refine (H.out).mono ?_; rintro e w' ⟨rfl, hb⟩))
  go_ret
  exact ⟨rfl, hb⟩

def le4 (n : Nat) : List UInt8 := [UInt8.ofNat n, UInt8.ofNat (n / 256), UInt8.ofNat (n / 65536), UInt8.ofNat (n / 16777216)]

theorem le4_cells (n : Nat) (hn : n < 4294967296) : (bvs (le4 n)).toArray = #[.int .u8 ((n : Int) % 256), .int .u8 ((n : Int) / 256 % 256), .int .u8 ((n : Int) / 65536 % 256), .int .u8 ((n : Int) / 16777216)] := by
  have h : ∀ k : Nat, ((UInt8.ofNat k).toNat : Int) = ((k : Nat) : Int) % 256 := fun k => by simp
  have h1 : (((n / 16777216 : Nat) : Int)) % 256 = (n : Int) / 16777216 := by omega
  simp only [le4, bvs, List.map_cons, List.map_nil, h, h1]
  rfl

theorem bytes_any (n : Nat) (hn : n < 4294967296) (w : World) :
    Calls Try.prog 26 #[.int .u32 n] w fun e w' => ∃ g, e = .returned (.slice (some ⟨g, 0, none⟩) 4 4) ∧ w.heap.size ≤ g ∧ Blk w' g 72 (bvs (le4 n)).toArray ∧ Below w.heap.size w w' := by
  go_enter Try.func26, Try.ntmps26
  go_wp2_with fail
  refine wp_loop_rounds 5 ?_
  iterate 5
    rw [rounds_succ]
    go_wp2_with fail
  go_ret
  refine ⟨w.heap.size, rfl, Nat.le_refl _, ?_, (Below.refl _ _).alloc (Nat.le_refl _) _⟩
  rw [le4_cells n hn]
  exact heap_alloc_new w _

/-- of four bytes -/
def of4 (l : List UInt8) : Nat := (l.getD 0 0).toNat ||| (l.getD 1 0).toNat * 256 ||| (l.getD 2 0).toNat * 65536 ||| (l.getD 3 0).toNat * 16777216

theorem or32 {a b : Int} {x y : Nat} (ha : a = (x : Int)) (hb : b = (y : Int)) (hx : x < 4294967296) (hy : y < 4294967296) :
    bits .or .u32 a b = ((x ||| y : Nat) : Int) ∧ x ||| y < 4294967296 := by
  subst ha; subst hb
  exact ⟨u32_or_nat x y hx hy, Nat.or_lt_two_pow (n := 32) hx hy⟩
theorem of4_bits (x0 x1 x2 x3 : UInt8) : bits .or .u32 (bits .or .u32 (bits .or .u32 ((x0.toNat : Int) % 4294967296) ((x1.toNat : Int) % 4294967296 * 256 % 4294967296)) ((x2.toNat : Int) % 4294967296 * 65536 % 4294967296)) ((x3.toNat : Int) % 4294967296 * 16777216 % 4294967296) =
    ((x0.toNat ||| x1.toNat * 256 ||| x2.toNat * 65536 ||| x3.toNat * 16777216 : Nat) : Int) := by
  have h0 := x0.toNat_lt
  have h1 := x1.toNat_lt
  have h2 := x2.toNat_lt
  have h3 := x3.toNat_lt
  obtain ⟨e1, b1⟩ := or32 (a := (x0.toNat : Int) % 4294967296) (b := (x1.toNat : Int) % 4294967296 * 256 % 4294967296) (x := x0.toNat) (y := x1.toNat * 256) (by omega) (by omega) (by omega) (by omega)
  obtain ⟨e2, b2⟩ := or32 (b := (x2.toNat : Int) % 4294967296 * 65536 % 4294967296) (y := x2.toNat * 65536) e1 (by omega) b1 (by omega)
  exact (or32 (b := (x3.toNat : Int) % 4294967296 * 16777216 % 4294967296) (y := x3.toNat * 16777216) e2 (by omega) b2 (by omega)).1
theorem of4_bits0 (x0 x1 x2 x3 : UInt8) : bits .or .u32 (bits .or .u32 (bits .or .u32 (bits .or .u32 0 ((x0.toNat : Int) % 4294967296)) ((x1.toNat : Int) % 4294967296 * 256 % 4294967296)) ((x2.toNat : Int) % 4294967296 * 65536 % 4294967296)) ((x3.toNat : Int) % 4294967296 * 16777216 % 4294967296) =
    ((x0.toNat ||| x1.toNat * 256 ||| x2.toNat * 65536 ||| x3.toNat * 16777216 : Nat) : Int) := by
  have h0 := x0.toNat_lt
  have e := (or32 (a := 0) (b := (x0.toNat : Int) % 4294967296) (x := 0) (y := x0.toNat) rfl (by omega) (by decide) (by omega)).1
  rw [e, Nat.zero_or, ← of4_bits x0 x1 x2 x3]
  congr 3
  omega

/-- four bytes of a slice -/
theorem Reads.four {w : World} {B : Nat} {A : Option Addr} {n : Nat} {l : List UInt8} (hr : Reads w B 1 A n (bvs l)) (hn : 4 ≤ n) :
    ∃ b o, A = some ⟨b, o, none⟩ ∧ b < B ∧ w.cell? ⟨b, o, none⟩ = some (.int .u8 ((l.getD 0 0).toNat : Int)) ∧ w.cell? ⟨b, o + 1, none⟩ = some (.int .u8 ((l.getD 1 0).toNat : Int)) ∧
      w.cell? ⟨b, o + 2, none⟩ = some (.int .u8 ((l.getD 2 0).toNat : Int)) ∧ w.cell? ⟨b, o + 3, none⟩ = some (.int .u8 ((l.getD 3 0).toNat : Int)) := by
  obtain ⟨b, o, rfl, hb, h0⟩ := hr.byte (k := 0) (by omega)
  obtain ⟨b', o', e1, _, h1⟩ := hr.byte (k := 1) (by omega)
  obtain ⟨rfl, rfl⟩ : b = b' ∧ o = o' := by simpa using e1
  obtain ⟨b', o', e2, _, h2⟩ := hr.byte (k := 2) (by omega)
  obtain ⟨rfl, rfl⟩ : b = b' ∧ o = o' := by simpa using e2
  obtain ⟨b', o', e3, _, h3⟩ := hr.byte (k := 3) (by omega)
  obtain ⟨rfl, rfl⟩ : b = b' ∧ o = o' := by simpa using e3
  exact ⟨b, o, rfl, hb, h0, h1, h2, h3⟩

theorem of_bad (A : Option Addr) (n c : Nat) (w : World) (hn : ¬ n = 4) (hm : n ≤ maxLen) :
    Calls Try.prog 52 #[.slice A n c] w fun e w' => e = .returned (.tuple #[.int .u32 0, .int .i64 2]) ∧ w = w' := by
  have hn' : ((n : Int) != 4) = true := by simp; omega
  go_enter Try.func52, Try.ntmps52
  go_wp2
  go_ret2
  exact ⟨rfl, rfl⟩

theorem of_any (A : Option Addr) (c : Nat) (l : List UInt8) (w : World) {B : Nat} (hr : Reads w B 1 A 4 (bvs l)) :
    Calls Try.prog 52 #[.slice A 4 c] w fun e w' => e = .returned (.tuple #[.int .u32 (of4 l : Nat), .int .i64 0]) ∧ w = w' := by
  obtain ⟨b, o, rfl, hb, h0, h1, h2, h3⟩ := hr.four (by decide)
  have hv := of4_bits0 (l.getD 0 0) (l.getD 1 0) (l.getD 2 0) (l.getD 3 0)
  rw [show ((l.getD 0 0).toNat ||| (l.getD 1 0).toNat * 256 ||| (l.getD 2 0).toNat * 65536 ||| (l.getD 3 0).toNat * 16777216) = of4 l from rfl] at hv
  have HV := hide hv
  clear hr hv
  generalize l.getD 0 0 = x0 at *
  generalize l.getD 1 0 = x1 at *
  generalize l.getD 2 0 = x2 at *
  generalize l.getD 3 0 = x3 at *
  go_enter Try.func52, Try.ntmps52
  go_wp2_with fail
  refine wp_loop_rounds 5 ?_
  iterate 5
    rw [rounds_succ]
    go_wp2_with fail
  go_ret2
  exact ⟨ret_tup2 HV.out, rfl⟩

theorem rof_any (A : Option Addr) (n c : Nat) (l : List UInt8) (w : World) {B : Nat} (hr : Reads w B 1 A n (bvs l)) (hn : 4 ≤ n) (hm : n ≤ maxLen) :
    Calls Try.prog 37 #[.slice A n c] w fun e w' => e = .returned (.int .u32 (of4 l : Nat)) ∧ ∃ m, w' = w.drewN m := by
  obtain ⟨b, o, rfl, hb, h0, h1, h2, h3⟩ := hr.four hn
  have hv := of4_bits (l.getD 0 0) (l.getD 1 0) (l.getD 2 0) (l.getD 3 0)
  rw [show ((l.getD 0 0).toNat ||| (l.getD 1 0).toNat * 256 ||| (l.getD 2 0).toNat * 65536 ||| (l.getD 3 0).toNat * 16777216) = of4 l from rfl] at hv
  have HV := hide hv
  clear hr hv
  generalize l.getD 0 0 = x0 at *
  generalize l.getD 1 0 = x1 at *
  generalize l.getD 2 0 = x2 at *
  generalize l.getD 3 0 = x3 at *
  have i0 : (0 : Int) < (n : Int) := by omega
  have i1 : (1 : Int) < (n : Int) := by omega
  have i2 : (2 : Int) < (n : Int) := by omega
  have i3 : (3 : Int) < (n : Int) := by omega
  go_enter Try.func37, Try.ntmps37
  go_wp2_with fail
  go_quiet (fail)
  go_wp2_with fail
  go_ret
  exact ⟨ret_int HV.out, _, rfl⟩

theorem rbytes_any (n : Nat) (hn : n < 4294967296) (w : World) :
    Calls Try.prog 31 #[.int .u32 n] w fun e w' => ∃ g, e = .returned (.slice (some ⟨g, 0, none⟩) 4 4) ∧ w.heap.size ≤ g ∧ Blk w' g 5 (bvs (le4 n)).toArray ∧ Below w.heap.size w w' := by
  go_enter Try.func31, Try.ntmps31
  go_wp2_with fail
  go_ret
  refine ⟨w.heap.size, rfl, Nat.le_refl _, ?_, (Below.refl _ _).alloc (Nat.le_refl _) _⟩
  rw [le4_cells n hn]
  exact heap_alloc_new w _
end Go.Proofs.Ytbpodmgogokpiaa
