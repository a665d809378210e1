/- The walk of the document's Block (package taborref01). Conditions: the state's words fit 32 bits, the block has 64 bytes. -/
import Derived.Test.YthfgblchlgodmaaRefB
import Derived.Test.YthfgblchlgodmaaWords
import Derived.Test.YthfgblchlgodmaaBlock
import Derived.Test.YthfgblchlgodmaaGrow
import Derived.Deep.RegionHeld3
import Derived.Deep.DrawnRows
namespace Go.Proofs.Ythfgblchlgodmaa
open Go.RowKit
set_option linter.unusedVariables false
attribute [local go_sem ↓] Go.wp_at_zero Go.wp_at_succ

theorem or_add (a b k : Nat) (h : b < 2 ^ k) : a * 2 ^ k ||| b = a * 2 ^ k + b := by
  rw [Nat.mul_comm, Nat.two_pow_add_eq_or_of_lt h]
theorem part4 (l : List UInt8) (t : Nat) : part l t 4 = (l.getD (4 * t) 0).toNat * 16777216 + (l.getD (4 * t + 1) 0).toNat * 65536 + (l.getD (4 * t + 2) 0).toNat * 256 + (l.getD (4 * t + 3) 0).toNat := by
  have h0 := (l.getD (4 * t) 0).toNat_lt
  have h1 := (l.getD (4 * t + 1) 0).toNat_lt
  have h2 := (l.getD (4 * t + 2) 0).toNat_lt
  have h3 := (l.getD (4 * t + 3) 0).toNat_lt
  simp only [part, Nat.add_zero]
  generalize (l.getD (4 * t) 0).toNat = a at *
  generalize (l.getD (4 * t + 1) 0).toNat = b at *
  generalize (l.getD (4 * t + 2) 0).toNat = c at *
  generalize (l.getD (4 * t + 3) 0).toNat = d at *
  have e1 := or_add a b 8 h1
  have e2 := or_add (a * 256 + b) c 8 h2
  have e3 := or_add ((a * 256 + b) * 256 + c) d 8 h3
  rw [show (2 : Nat) ^ 8 = 256 from rfl] at e1 e2 e3
  have m1 : a * 256 % 4294967296 = a * 256 := Nat.mod_eq_of_lt (by omega)
  have m2 : (a * 256 + b) * 256 % 4294967296 = (a * 256 + b) * 256 := Nat.mod_eq_of_lt (by omega)
  have m3 : ((a * 256 + b) * 256 + c) * 256 % 4294967296 = ((a * 256 + b) * 256 + c) * 256 := Nat.mod_eq_of_lt (by omega)
  rw [show 0 * 256 % 4294967296 ||| a = a by simp, m1, e1, m2, e2, m3, e3]
  omega
theorem word64 (a b c d : UInt8) : bits .or .u64 (bits .or .u64 (bits .or .u64 ((a.toNat : Int) * 16777216) ((b.toNat : Int) * 65536)) ((c.toNat : Int) * 256)) (d.toNat : Int) = ((a.toNat * 16777216 + b.toNat * 65536 + c.toNat * 256 + d.toNat : Nat) : Int) := by
  have h0 := a.toNat_lt
  have h1 := b.toNat_lt
  have h2 := c.toNat_lt
  have h3 := d.toNat_lt
  obtain ⟨e1, l1⟩ := or64 (a := (a.toNat : Int) * 16777216) (b := (b.toNat : Int) * 65536) (x := a.toNat * 16777216) (y := b.toNat * 65536) (by omega) (by omega) (by omega) (by omega)
  obtain ⟨e2, l2⟩ := or64 (b := (c.toNat : Int) * 256) (y := c.toNat * 256) e1 (by omega) l1 (by omega)
  obtain ⟨e3, l3⟩ := or64 (b := (d.toNat : Int)) (y := d.toNat) e2 rfl l2 (by omega)
  rw [e3]
  have o1 := or_add a.toNat (b.toNat * 65536) 24 (by omega)
  have o2 := or_add (a.toNat * 256 + b.toNat) (c.toNat * 256) 16 (by omega)
  have o3 := or_add ((a.toNat * 256 + b.toNat) * 256 + c.toNat) d.toNat 8 (by omega)
  rw [show (2 : Nat) ^ 24 = 16777216 from rfl] at o1
  rw [show (2 : Nat) ^ 16 = 65536 from rfl] at o2
  rw [show (2 : Nat) ^ 8 = 256 from rfl] at o3
  rw [o1, show a.toNat * 16777216 + b.toNat * 65536 = (a.toNat * 256 + b.toNat) * 65536 by omega, o2, show (a.toNat * 256 + b.toNat) * 65536 + c.toNat * 256 = ((a.toNat * 256 + b.toNat) * 256 + c.toNat) * 256 by omega, o3]
def u64s (ws : List Nat) : List Value := ws.map fun x => Value.int .u64 (x : Nat)
theorem u64_ok : ElemOk Try.prog 105 1 8 (.int .u64 0) := elemOk (by kernel_rfl) rfl (by decide)


theorem u64s_snoc (ws : List Nat) (x : Nat) : u64s (ws ++ [x]) = u64s ws ++ [.int .u64 (x : Nat)] := by simp [u64s]
theorem u64s_at (ws : List Nat) (i : Nat) (h : i < ws.length) : (u64s ws)[i]? = some (.int .u64 (ws.getD i 0 : Nat)) := by
  simp [u64s, h]
theorem wl_low (l : List UInt8) (t : Nat) (h : t < 16) : wl l (t + 1) = wl l t ++ [part l t 4] := by simp [wl, nextW, wl_length, h]
theorem wl_high (l : List UInt8) (t : Nat) (h : 16 ≤ t) : wl l (t + 1) = wl l t ++ [rotl ((wl l t).getD (t - 3) 0 ^^^ (wl l t).getD (t - 8) 0 ^^^ (wl l t).getD (t - 14) 0 ^^^ (wl l t).getD (t - 16) 0) 1] := by
  simp [wl, nextW, wl_length, Nat.not_lt.2 h]
theorem one_u64 (x : Int) : ∀ u ∈ [Value.int .u64 x], u.oneCell' = true := by intro u hu; simp at hu; rw [hu]; rfl
theorem undrewC {B : Nat} {w w' : World} (h : Below B w.drew w') : Below B w w' := ⟨h.os, h.tape, h.output, h.size, h.block⟩

theorem own_cell {w : World} {base : Nat} {e : TypeId} {g n cap : Nat} {ws : List Nat} (h : w.ownsRow base e 1 (.slice (some ⟨g, 0, none⟩) n cap) n (u64s ws)) (hn : ws.length = n) {i : Nat} (hi : i < n) : w.cell? ⟨g, i, none⟩ = some (.int .u64 (ws.getD i 0 : Nat)) := by
  have hrd := Reads.of_own h
  obtain ⟨b, o, e, _, hc⟩ := hrd.2 (by omega)
  obtain ⟨rfl, rfl⟩ : g = b ∧ 0 = o := by simpa using e
  have := hc i _ (u64s_at ws i (by omega))
  rwa [Nat.zero_add] at this
theorem mask64 {a : Int} (x : Nat) (ha : a = (x : Int)) (hx : x < 18446744073709551616) : bits .and .u64 a 4294967295 = ((x % 4294967296 : Nat) : Int) := by
  obtain ⟨e1, _⟩ := and64 (a := a) (b := 4294967295) (x := x) (y := 4294967295) ha rfl hx (by decide)
  rw [e1]
  have := Nat.and_two_pow_sub_one_eq_mod x 32
  rw [show (2 : Nat) ^ 32 - 1 = 4294967295 from rfl, show (2 : Nat) ^ 32 = 4294967296 from rfl] at this
  rw [this]

set_option maxRecDepth 100000 in
set_option maxHeartbeats 4000000 in
theorem rblock_any (s : St) (hs : s.fits) (A : Option Addr) (c : Nat) (l : List UInt8) (w : World) (hr : Reads w w.heap.size 1 A 64 (bvs l)) (hc : 64 ≤ c) (hcm : c ≤ maxLen) :
    Calls Try.prog 54 #[.agg s.cells, .slice A 64 c] w fun e w' => e = .returned (.agg (blockOf s l).cells) ∧ Below w.heap.size w w' := by
  have hcells : s.cells = #[.int .u32 s.a, .int .u32 s.b, .int .u32 s.c, .int .u32 s.d, .int .u32 s.e] := rfl
  rw [hcells]
  clear hcells
  go_enter Try.func54, Try.ntmps54
  go_wp2_with fail
  have hB0 : Blk ((w.alloc (.cells #[.int .u32 s.a, .int .u32 s.b, .int .u32 s.c, .int .u32 s.d, .int .u32 s.e] 93)).alloc (.cells #[.int .u32 0, .int .u32 0, .int .u32 0, .int .u32 0, .int .u32 0] 93)) w.heap.size 93 (five s) :=
    (Blk.new w 93 _).alloc _
  have hB1 : Blk ((w.alloc (.cells #[.int .u32 s.a, .int .u32 s.b, .int .u32 s.c, .int .u32 s.d, .int .u32 s.e] 93)).alloc (.cells #[.int .u32 0, .int .u32 0, .int .u32 0, .int .u32 0, .int .u32 0] 93)) (w.heap.size + 1) 93 five0 := by
    have := Blk.new (w.alloc (.cells #[.int .u32 s.a, .int .u32 s.b, .int .u32 s.c, .int .u32 s.d, .int .u32 s.e] 93)) 93 #[.int .u32 0, .int .u32 0, .int .u32 0, .int .u32 0, .int .u32 0]
    rw [World.size_alloc] at this
    exact this
  have hbw : Below w.heap.size w ((w.alloc (.cells #[.int .u32 s.a, .int .u32 s.b, .int .u32 s.c, .int .u32 s.d, .int .u32 s.e] 93)).alloc (.cells #[.int .u32 0, .int .u32 0, .int .u32 0, .int .u32 0, .int .u32 0] 93)) := ((Below.refl _ _).alloc (Nat.le_refl _) _).alloc (by simp) _
  have hsz0 : w.heap.size + 2 ≤ ((w.alloc (.cells #[.int .u32 s.a, .int .u32 s.b, .int .u32 s.c, .int .u32 s.d, .int .u32 s.e] 93)).alloc (.cells #[.int .u32 0, .int .u32 0, .int .u32 0, .int .u32 0, .int .u32 0] 93)).heap.size := by simp
  generalize ((w.alloc (.cells #[.int .u32 s.a, .int .u32 s.b, .int .u32 s.c, .int .u32 s.d, .int .u32 s.e] 93)).alloc (.cells #[.int .u32 0, .int .u32 0, .int .u32 0, .int .u32 0, .int .u32 0] 93)) = W0 at *
  go_loopw [5, 6] (fun v i wr => ∃ t : Nat, t ≤ 16 ∧ i = .int .i64 t ∧ wr.ownsRow W0.heap.size 105 1 v t (u64s (wl l t)) ∧ Below W0.heap.size W0 wr)
    (fun _ i _ => 16 - (intOf i).toNat)
  case atStart => exact ⟨0, by omega, rfl, World.ownsRow_nil _ _ _ _, Below.refl _ _⟩
  case round =>
    obtain ⟨t, ht, rfl, hown, hb⟩ := hrel
    by_cases h16 : t < 16
    · have h16' : (t : Int) < 16 := by omega
      have hrr := hr.below' (hbw.trans (hb.mono hbw.size)) (Nat.le_refl _)
      obtain ⟨b, o, rfl, hbb, c0⟩ := hrr.byte (k := 4 * t) (by omega)
      obtain ⟨b', o', e1, _, c1⟩ := hrr.byte (k := 4 * t + 1) (by omega)
      obtain ⟨rfl, rfl⟩ : b = b' ∧ o = o' := by simpa using e1
      obtain ⟨b', o', e1, _, c2⟩ := hrr.byte (k := 4 * t + 2) (by omega)
      obtain ⟨rfl, rfl⟩ : b = b' ∧ o = o' := by simpa using e1
      obtain ⟨b', o', e1, _, c3⟩ := hrr.byte (k := 4 * t + 3) (by omega)
      obtain ⟨rfl, rfl⟩ : b = b' ∧ o = o' := by simpa using e1
      clear e1
      generalize hy0 : l.getD (4 * t) 0 = y0 at *
      generalize hy1 : l.getD (4 * t + 1) 0 = y1 at *
      generalize hy2 : l.getD (4 * t + 2) 0 = y2 at *
      generalize hy3 : l.getD (4 * t + 3) 0 = y3 at *
      have n0 : (4 * (t : Int)).toNat = 4 * t := by omega
      have n1 : (4 * (t : Int) + 1).toNat = 4 * t + 1 := by omega
      have n2 : (4 * (t : Int) + 2).toNat = 4 * t + 2 := by omega
      have n3 : (4 * (t : Int) + 3).toNat = 4 * t + 3 := by omega
      have p0 : 4 * (t : Int) < 64 := by omega
      have p1 : 4 * (t : Int) + 1 < 64 := by omega
      have p2 : 4 * (t : Int) + 2 < 64 := by omega
      have p3 : 4 * (t : Int) + 3 < 64 := by omega
      have z0 : 0 ≤ 4 * (t : Int) := by omega
      have z1 : 0 ≤ 4 * (t : Int) + 1 := by omega
      have z2 : 0 ≤ 4 * (t : Int) + 2 := by omega
      have z3 : 0 ≤ 4 * (t : Int) + 3 := by omega
      have w0 : IntKind.i64.wrap (4 * (t : Int)) = 4 * (t : Int) := by rw [IntKind.wrap_i64]; omega
      have w1 : IntKind.i64.wrap (4 * (t : Int) + 1) = 4 * (t : Int) + 1 := by rw [IntKind.wrap_i64]; omega
      have w2 : IntKind.i64.wrap (4 * (t : Int) + 2) = 4 * (t : Int) + 2 := by rw [IntKind.wrap_i64]; omega
      have w3 : IntKind.i64.wrap (4 * (t : Int) + 3) = 4 * (t : Int) + 3 := by rw [IntKind.wrap_i64]; omega
      have ub0 := y0.toNat_lt
      have ub1 := y1.toNat_lt
      have ub2 := y2.toNat_lt
      have ub3 := y3.toNat_lt
      have v0 : IntKind.u64.wrap (y0.toNat : Int) = (y0.toNat : Int) := IntWalk.u64_in _ (by omega)
      have v1 : IntKind.u64.wrap (y1.toNat : Int) = (y1.toNat : Int) := IntWalk.u64_in _ (by omega)
      have v2 : IntKind.u64.wrap (y2.toNat : Int) = (y2.toNat : Int) := IntWalk.u64_in _ (by omega)
      have v3 : IntKind.u64.wrap (y3.toNat : Int) = (y3.toNat : Int) := IntWalk.u64_in _ (by omega)
      have x0 : IntKind.u64.wrap ((y0.toNat : Int) * 16777216) = (y0.toNat : Int) * 16777216 := IntWalk.u64_in _ (by omega)
      have x1 : IntKind.u64.wrap ((y1.toNat : Int) * 65536) = (y1.toNat : Int) * 65536 := IntWalk.u64_in _ (by omega)
      have x2 : IntKind.u64.wrap ((y2.toNat : Int) * 256) = (y2.toNat : Int) * 256 := IntWalk.u64_in _ (by omega)
      clear ub0 ub1 ub2 ub3
      have hword := word64 y0 y1 y2 y3
      have hpart := part4 l t
      rw [hy0, hy1, hy2, hy3] at hpart
      rw [← hpart] at hword
      have hwln := hide (wl_low l t h16)
      clear hpart
      generalize part l t 4 = xw at *
      have hbW : b < wr.heap.size := by have := hb.size; omega
      have hbne : u5.ownBlock ≠ some b := fun e => by have := (hown.lt b e).1; omega
      have en0 := World.new_ne wr _ c0
      have hwB : W0.heap.size ≤ wr.heap.size := hb.size
      go_wp2_with fail
      go_region_held3 (fun w' => w'.cell? ⟨b, o + 4 * t, none⟩ = some (.int .u8 y0.toNat) ∧ w'.cell? ⟨b, o + (4 * t + 1), none⟩ = some (.int .u8 y1.toNat) ∧ w'.cell? ⟨b, o + (4 * t + 2), none⟩ = some (.int .u8 y2.toNat) ∧ w'.cell? ⟨b, o + (4 * t + 3), none⟩ = some (.int .u8 y3.toNat))
        (first
          | go_keep
          | (go_split_ands
             refine ⟨?_, ?_, ?_, ?_⟩ <;> (rw [hgrow.cell_far _ (by simp; omega) (Ne.symm hbne)]; assumption)))
        ((refine step_append (by rfl) _ _ _ (by rfl) u64_ok Try.underlying106 (v := u5) (n := t) (xs := u64s (wl l t)) (hown.alloc _).drew (by rfl) (Reads.one_new wr (.int .u64 (xw : Nat)) 105).drew (by rfl) (one_u64 _) (by unfold maxLen; omega) (by omega) (by simp; omega) ?_
          intro v1 w1 hown1 hb1 hgrow))
      go_wp2_with fail
      go_roundw
      case rel =>
        refine ⟨t + 1, by omega, by go_num, ?_, ((Below.alloc ⟨hb.os, hb.tape, hb.output, hb.size, hb.block⟩ hwB _)).trans (undrewC hb1)⟩
        rw [hwln.out, u64s_snoc]
        exact hown1
      case measure => simp [intOf]; omega
    · have h16' : ¬ (t : Int) < 16 := by omega
      obtain rfl : t = 16 := by omega
      go_wp2_with fail
      clear h16 h16' ht
      go_loopw [5, 7] (fun v i wr => ∃ t : Nat, 16 ≤ t ∧ t ≤ 80 ∧ i = .int .i64 t ∧ wr.ownsRow W0.heap.size 105 1 v t (u64s (wl l t)) ∧ Below W0.heap.size W0 wr)
        (fun _ i _ => 80 - (intOf i).toNat)
      case atStart => exact ⟨16, by omega, by omega, rfl, hown, hb⟩
      case round =>
        clear hown hb
        obtain ⟨t, ht0, ht, rfl, hown, hb⟩ := hrel
        by_cases h80 : t < 80
        · have h80' : (t : Int) < 80 := by omega
          obtain ⟨g, cap, rfl, hcap, hcm2, hg, hgl⟩ := own_form hown (by omega)
          have c3 := own_cell hown (wl_length l t) (i := t - 3) (by omega)
          have c8 := own_cell hown (wl_length l t) (i := t - 8) (by omega)
          have c14 := own_cell hown (wl_length l t) (i := t - 14) (by omega)
          have c16 := own_cell hown (wl_length l t) (i := t - 16) (by omega)
          have l3 := (wl_all l t).at_ (t - 3)
          have l8 := (wl_all l t).at_ (t - 8)
          have l14 := (wl_all l t).at_ (t - 14)
          have l16 := (wl_all l t).at_ (t - 16)
          have hwln := hide (wl_high l t ht0)
          generalize (wl l t).getD (t - 3) 0 = x3 at *
          generalize (wl l t).getD (t - 8) 0 = x8 at *
          generalize (wl l t).getD (t - 14) 0 = x14 at *
          generalize (wl l t).getD (t - 16) 0 = x16 at *
          obtain ⟨e1, l1⟩ := xor64' (a := (x3 : Int)) (b := (x8 : Int)) rfl rfl l3 l8
          generalize x3 ^^^ x8 = y1 at *
          obtain ⟨e2, l2⟩ := xor64' (a := (y1 : Int)) (b := (x14 : Int)) rfl rfl l1 l14
          generalize y1 ^^^ x14 = y2 at *
          obtain ⟨e3, l3'⟩ := xor64' (a := (y2 : Int)) (b := (x16 : Int)) rfl rfl l2 l16
          generalize y2 ^^^ x16 = y3 at *
          have q3 : IntKind.i64.wrap ((t : Int) - 3) = (t : Int) - 3 := by rw [IntKind.wrap_i64]; omega
          have q8 : IntKind.i64.wrap ((t : Int) - 8) = (t : Int) - 8 := by rw [IntKind.wrap_i64]; omega
          have q14 : IntKind.i64.wrap ((t : Int) - 14) = (t : Int) - 14 := by rw [IntKind.wrap_i64]; omega
          have q16 : IntKind.i64.wrap ((t : Int) - 16) = (t : Int) - 16 := by rw [IntKind.wrap_i64]; omega
          have r3 : 3 ≤ (t : Int) := by omega
          have r8 : 8 ≤ (t : Int) := by omega
          have r14 : 14 ≤ (t : Int) := by omega
          have r16 : 16 ≤ (t : Int) := by omega
          have z3 : 0 ≤ (t : Int) - 3 := by omega
          have z8 : 0 ≤ (t : Int) - 8 := by omega
          have z14 : 0 ≤ (t : Int) - 14 := by omega
          have z16 : 0 ≤ (t : Int) - 16 := by omega
          have s3 : (t : Int) - 3 < (t : Int) := by omega
          have s8 : (t : Int) - 8 < (t : Int) := by omega
          have s14 : (t : Int) - 14 < (t : Int) := by omega
          have s16 : (t : Int) - 16 < (t : Int) := by omega
          have n3 : ((t : Int) - 3).toNat = t - 3 := by omega
          have n8 : ((t : Int) - 8).toNat = t - 8 := by omega
          have n14 : ((t : Int) - 14).toNat = t - 14 := by omega
          have n16 : ((t : Int) - 16).toNat = t - 16 := by omega
          have hwB : W0.heap.size ≤ wr.heap.size := hb.size
          go_wp2_with fail
          go_region_held3 (fun w' => w'.cell? ⟨g, t - 3, none⟩ = some (.int .u64 x3) ∧ w'.cell? ⟨g, t - 8, none⟩ = some (.int .u64 x8) ∧ w'.cell? ⟨g, t - 14, none⟩ = some (.int .u64 x14) ∧ w'.cell? ⟨g, t - 16, none⟩ = some (.int .u64 x16))
            (first
              | go_keep
              | exact hS4)
            (first
              | (go_at_call 63
                 go_must (
                 refine (turned1_any y3 l3' wr.drew).mono ?_
                 rintro e w2 ⟨rfl, m2, hw2⟩
                 have hown2 : w2.ownsRow W0.heap.size 105 1 (.slice (some ⟨g, 0, none⟩) t cap) t (u64s (wl l t)) := by rw [hw2]; exact hown
                 have hb2 : Below W0.heap.size W0 w2 := by rw [hw2]; exact ⟨hb.os, hb.tape, hb.output, hb.size, hb.block⟩
                 have k3 : w2.cell? ⟨g, t - 3, none⟩ = some (.int .u64 x3) := by rw [hw2]; exact c3
                 have k8 : w2.cell? ⟨g, t - 8, none⟩ = some (.int .u64 x8) := by rw [hw2]; exact c8
                 have k14 : w2.cell? ⟨g, t - 14, none⟩ = some (.int .u64 x14) := by rw [hw2]; exact c14
                 have k16 : w2.cell? ⟨g, t - 16, none⟩ = some (.int .u64 x16) := by rw [hw2]; exact c16
                 clear hw2
                 have hwB2 : W0.heap.size ≤ w2.heap.size := hb2.size
                 have hg2 : g < w2.heap.size := World.block_lt_of_cell? w2 _ k3
                 have en2 := World.new_ne w2 _ k3))
              | ((refine step_append_keep (by rfl) _ _ _ (by rfl) u64_ok Try.underlying106 (g := g) (n := t) (cap := cap) (xs := u64s (wl l t)) (hown2.alloc _) (by rfl) (Reads.one_new w2 (.int .u64 (rotl y3 1 : Nat)) 105) (by decide) (by rfl) (one_u64 _) (by unfold maxLen; omega) (by omega) (by simp; omega) ?_
                  intro v1 w1 hown1 hb1 hold hgrow
                  have hS4 : w1.cell? ⟨g, t - 3, none⟩ = some (.int .u64 x3) ∧ w1.cell? ⟨g, t - 8, none⟩ = some (.int .u64 x8) ∧ w1.cell? ⟨g, t - 14, none⟩ = some (.int .u64 x14) ∧ w1.cell? ⟨g, t - 16, none⟩ = some (.int .u64 x16) := by
                    refine ⟨?_, ?_, ?_, ?_⟩
                    · rw [hold _ (by omega), World.cell?_alloc_lt _ _ _ (by simp; omega)]; exact k3
                    · rw [hold _ (by omega), World.cell?_alloc_lt _ _ _ (by simp; omega)]; exact k8
                    · rw [hold _ (by omega), World.cell?_alloc_lt _ _ _ (by simp; omega)]; exact k14
                    · rw [hold _ (by omega), World.cell?_alloc_lt _ _ _ (by simp; omega)]; exact k16)))
          go_wp2_with fail
          go_roundw
          case rel =>
            refine ⟨t + 1, by omega, by omega, by go_num, ?_, (hb2.alloc hwB2 _).trans hb1⟩
            rw [hwln.out, u64s_snoc]
            exact hown1
          case measure => simp [intOf]; omega
        · have h80' : ¬ (t : Int) < 80 := by omega
          obtain rfl : t = 80 := by omega
          clear h80 h80' ht ht0
          obtain ⟨g, cap, rfl, hcap, hcm2, hg, hgl⟩ := own_form hown (by omega)
          have hws : ∀ i, i < 80 → wr.cell? ⟨g, i, none⟩ = some (.int .u64 ((wl l 80).getD i 0 : Nat)) := fun i hi => own_cell hown (wl_length l 80) hi
          have hBs : Blk wr w.heap.size 93 #[.int .u32 s.a, .int .u32 s.b, .int .u32 s.c, .int .u32 s.d, .int .u32 s.e] := hB0.below hb (by omega)
          have hBo : Blk wr (w.heap.size + 1) 93 five0 := hB1.below hb (by omega)
          have hbw1 : Below w.heap.size w wr := hbw.trans (hb.mono hbw.size)
          have HB : Hid (blockOf s l = addSt (runs (wl l 80) s 80) s) := rfl
          have hall := wl_all l 80
          clear hown hb
          generalize wl l 80 = ws at *
          have HWS := hide hws
          clear hws
          obtain ⟨q0, q1, q2, q3, q4⟩ := blk5 hBs
          obtain ⟨sa, sb, sc, sd, se⟩ := id hs
          have va : IntKind.u64.wrap (s.a : Int) = (s.a : Int) := IntWalk.u64_in _ (by omega)
          have vb : IntKind.u64.wrap (s.b : Int) = (s.b : Int) := IntWalk.u64_in _ (by omega)
          have vc : IntKind.u64.wrap (s.c : Int) = (s.c : Int) := IntWalk.u64_in _ (by omega)
          have vd : IntKind.u64.wrap (s.d : Int) = (s.d : Int) := IntWalk.u64_in _ (by omega)
          have ve : IntKind.u64.wrap (s.e : Int) = (s.e : Int) := IntWalk.u64_in _ (by omega)
          go_wp2_with fail
          go_region_held3 (fun w' => w'.cell? ⟨w.heap.size, 0, none⟩ = some (.int .u32 s.a) ∧ w'.cell? ⟨w.heap.size, 1, none⟩ = some (.int .u32 s.b) ∧ w'.cell? ⟨w.heap.size, 2, none⟩ = some (.int .u32 s.c) ∧ w'.cell? ⟨w.heap.size, 3, none⟩ = some (.int .u32 s.d) ∧ w'.cell? ⟨w.heap.size, 4, none⟩ = some (.int .u32 s.e)) (go_keep) (fail)
          go_wp2_with fail
          clear q0 q1 q2 q3 q4
          go_loopw [8, 9, 10, 11, 12, 13, 14, 15, 16] (fun xa xb xc xd xe i xf xk xn wq => ∃ t : Nat, t ≤ 80 ∧ xa = .int .u64 ((runs ws s t).a : Nat) ∧ xb = .int .u64 ((runs ws s t).b : Nat) ∧ xc = .int .u64 ((runs ws s t).c : Nat) ∧ xd = .int .u64 ((runs ws s t).d : Nat) ∧ xe = .int .u64 ((runs ws s t).e : Nat) ∧ i = .int .i64 t ∧
              Blk wq w.heap.size 93 #[.int .u32 s.a, .int .u32 s.b, .int .u32 s.c, .int .u32 s.d, .int .u32 s.e] ∧ Blk wq (w.heap.size + 1) 93 five0 ∧ Hid (∀ i, i < 80 → wq.cell? ⟨g, i, none⟩ = some (.int .u64 (ws.getD i 0 : Nat))) ∧ Below w.heap.size w wq)
            (fun _ _ _ _ _ i _ _ _ _ => 80 - (intOf i).toNat)
          case atStart => exact ⟨0, by omega, rfl, rfl, rfl, rfl, rfl, rfl, hBs, hBo, HWS, ⟨hbw1.os, hbw1.tape, hbw1.output, hbw1.size, hbw1.block⟩⟩
          case round =>
            clear hBs hBo HWS hbw1
            obtain ⟨t, ht, rfl, rfl, rfl, rfl, rfl, rfl, hBs, hBo, HWS, hbw1⟩ := hrel
            by_cases h80 : t < 80
            · have h80' : (t : Int) < 80 := by omega
              have ht0 : (0 : Int) ≤ (t : Int) := by omega
              have qx := HWS.out t h80
              have HRS : Hid (runs ws s (t + 1) = rnd t (runs ws s t) (ws.getD t 0)) := rfl
              obtain ⟨pa, pb, pc, pd, pe⟩ := runs_fits ws s hs t
              have lx := hall.at_ t
              generalize ws.getD t 0 = x at *
              generalize runs ws s t = p at *
              have lf : rndF (t / 20) p.b p.c p.d < 4294967296 := rndF_lt pb pc pd
              have lk : rndK (t / 20) < 4294967296 := by unfold rndK; split <;> (try split) <;> (try split) <;> decide
              have lr : rotl p.a 5 < 4294967296 := rotl_lt _ _ pa
              have HRD : Hid (rnd t p x = ⟨(rotl p.a 5 + rndF (t / 20) p.b p.c p.d + p.e + rndK (t / 20) + x) % 4294967296, p.a, rotl p.b 30, p.c, p.d⟩) := rfl
              have HRO := hide (rround_any t p.b p.c p.d h80 pb pc pd wr)
              generalize rndF (t / 20) p.b p.c p.d = ff at *
              generalize rndK (t / 20) = kk at *
              have HT5 := fun w => turned5_any p.a pa w
              generalize rotl p.a 5 = ra at *
              have s1 : IntKind.u64.wrap ((ra : Int) + (ff : Int)) = (ra : Int) + (ff : Int) := IntWalk.u64_in _ (by omega)
              have s2 : IntKind.u64.wrap ((ra : Int) + (ff : Int) + (p.e : Int)) = (ra : Int) + (ff : Int) + (p.e : Int) := IntWalk.u64_in _ (by omega)
              have s3 : IntKind.u64.wrap ((ra : Int) + (ff : Int) + (p.e : Int) + (kk : Int)) = (ra : Int) + (ff : Int) + (p.e : Int) + (kk : Int) := IntWalk.u64_in _ (by omega)
              have s4 : IntKind.u64.wrap ((ra : Int) + (ff : Int) + (p.e : Int) + (kk : Int) + (x : Int)) = (ra : Int) + (ff : Int) + (p.e : Int) + (kk : Int) + (x : Int) := IntWalk.u64_in _ (by omega)
              have s5 := mask64 (a := (ra : Int) + (ff : Int) + (p.e : Int) + (kk : Int) + (x : Int)) (ra + ff + p.e + kk + x) (by omega) (by omega)
              generalize (ra + ff + p.e + kk + x) % 4294967296 = nx at *
              go_wp2_with (first
                | (go_at_call 64
                   go_must (
                   refine HRO.out.mono ?_
                   rintro e w5 ⟨rfl, rfl⟩))
                | fail)
              go_region_held3 (fun w' => w'.cell? ⟨g, t, none⟩ = some (.int .u64 x)) (go_keep)
                (first
                  | (go_at_call 63
                     go_must (
                     refine (HT5 wr.drew).mono ?_
                     rintro e w5 ⟨rfl, m5, hw5⟩
                     have hBs5 : Blk w5 w.heap.size 93 #[.int .u32 s.a, .int .u32 s.b, .int .u32 s.c, .int .u32 s.d, .int .u32 s.e] := by rw [hw5]; exact hBs
                     have hBo5 : Blk w5 (w.heap.size + 1) 93 five0 := by rw [hw5]; exact hBo
                     have HWS5 : Hid (∀ i, i < 80 → w5.cell? ⟨g, i, none⟩ = some (.int .u64 (ws.getD i 0 : Nat))) := by rw [hw5]; exact HWS
                     have hbw5 : Below w.heap.size w w5 := by rw [hw5]; exact ⟨hbw1.os, hbw1.tape, hbw1.output, hbw1.size, hbw1.block⟩
                     have qx5 : w5.cell? ⟨g, t, none⟩ = some (.int .u64 x) := by rw [hw5]; exact qx
                     clear hw5)))
              go_wp2_with (first
                | (go_at_call 63
                   go_must (
                   refine (turned30_any p.b pb w5).mono ?_
                   rintro e w6 ⟨rfl, m6, hw6⟩))
                | fail)
              go_roundw
              case rel =>
                (repeat apply Exists.intro)
                refine ⟨?rl, ?fr⟩
                case fr => rfl
                refine ⟨t + 1, by omega, ?_, ?_, ?_, ?_, ?_, by go_num, ?_, ?_, ?_, ?_⟩
                · rw [HRS.out, HRD.out]
                · rw [HRS.out, HRD.out]
                · rw [HRS.out, HRD.out]
                · rw [HRS.out, HRD.out]
                · rw [HRS.out, HRD.out]
                · exact hBs5
                · exact hBo5
                · exact HWS5
                · exact ⟨hbw5.os, hbw5.tape, hbw5.output, hbw5.size, hbw5.block⟩
              case measure => simp [intOf]; omega
            · have h80' : ¬ (t : Int) < 80 := by omega
              obtain rfl : t = 80 := by omega
              obtain ⟨pa, pb, pc, pd, pe⟩ := runs_fits ws s hs 80
              generalize runs ws s 80 = p at *
              have HAD : Hid (addSt p s = ⟨(p.a + s.a) % 4294967296, (p.b + s.b) % 4294967296, (p.c + s.c) % 4294967296, (p.d + s.d) % 4294967296, (p.e + s.e) % 4294967296⟩) := rfl
              obtain ⟨ra, rb, rc, rd, re⟩ := addSt_fits p s
              have wa : IntKind.u64.wrap ((p.a : Int) + (s.a : Int)) = (p.a : Int) + (s.a : Int) := IntWalk.u64_in _ (by omega)
              have wb : IntKind.u64.wrap ((p.b : Int) + (s.b : Int)) = (p.b : Int) + (s.b : Int) := IntWalk.u64_in _ (by omega)
              have wc : IntKind.u64.wrap ((p.c : Int) + (s.c : Int)) = (p.c : Int) + (s.c : Int) := IntWalk.u64_in _ (by omega)
              have wd : IntKind.u64.wrap ((p.d : Int) + (s.d : Int)) = (p.d : Int) + (s.d : Int) := IntWalk.u64_in _ (by omega)
              have we : IntKind.u64.wrap ((p.e : Int) + (s.e : Int)) = (p.e : Int) + (s.e : Int) := IntWalk.u64_in _ (by omega)
              have ma : bits .and .u64 ((p.a : Int) + (s.a : Int)) 4294967295 = ((addSt p s).a : Int) := mask64 (p.a + s.a) (by omega) (by omega)
              have mb : bits .and .u64 ((p.b : Int) + (s.b : Int)) 4294967295 = ((addSt p s).b : Int) := mask64 (p.b + s.b) (by omega) (by omega)
              have mc : bits .and .u64 ((p.c : Int) + (s.c : Int)) 4294967295 = ((addSt p s).c : Int) := mask64 (p.c + s.c) (by omega) (by omega)
              have md : bits .and .u64 ((p.d : Int) + (s.d : Int)) 4294967295 = ((addSt p s).d : Int) := mask64 (p.d + s.d) (by omega) (by omega)
              have me : bits .and .u64 ((p.e : Int) + (s.e : Int)) 4294967295 = ((addSt p s).e : Int) := mask64 (p.e + s.e) (by omega) (by omega)
              generalize addSt p s = r at *
              have oa : IntKind.u32.wrap (r.a : Int) = (r.a : Int) := IntWalk.u32_in _ (by omega)
              have ob : IntKind.u32.wrap (r.b : Int) = (r.b : Int) := IntWalk.u32_in _ (by omega)
              have oc : IntKind.u32.wrap (r.c : Int) = (r.c : Int) := IntWalk.u32_in _ (by omega)
              have od : IntKind.u32.wrap (r.d : Int) = (r.d : Int) := IntWalk.u32_in _ (by omega)
              have oe : IntKind.u32.wrap (r.e : Int) = (r.e : Int) := IntWalk.u32_in _ (by omega)
              obtain ⟨q0, q1, q2, q3, q4⟩ := blk5 hBs
              go_wp2_with (first
                | (refine wpList_store_row rfl 93 (.tmp 4) (.tmp 170) rfl (w.heap.size + 1) rfl rfl hBo (show (5 : Nat) = 5 from rfl) (five_ints _ _ _ _ _) (by kernel_rfl) ?_; intro w6 hrs6 hb6)
                | fail)
              refine bodyPost_cell Try.results54 (g := w.heap.size + 1) rfl hb6 Try.underlying93 rfl (by kernel_rfl) rfl ⟨by rw [HB.out]; rfl, hbw1.trans (hrs6.below (by omega))⟩
end Go.Proofs.Ythfgblchlgodmaa
