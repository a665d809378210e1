/- The walks of Same (package taborref06) on like lists, and of works (the laws' own check). Conditions: those of each theorem. -/
import Derived.Test.YtlglelgnpkdnbaaDqL
import Derived.Test.YtlglelgnpkdnbaaDqB
namespace Go.Proofs.Ytlglelgnpkdnbaa
open Go.RowKit
set_option linter.unusedVariables false

theorem num_any (k : Int) (w : World) : Calls Try.prog 18 #[.int .i64 k] w fun e w' => e = .returned (.int .i64 k) ∧ w = w' := by
  go_enter Try.func18, Try.ntmps18
  go_wp2_with fail
  go_ret
  exact ⟨rfl, rfl⟩

set_option maxHeartbeats 1000000 in
theorem same_like (A : Option Addr) (n c : Nat) (A' : Option Addr) (c' : Nat) (l : List ByteArray) (w : World) (hr : Reads w w.heap.size 1 A n (svs l)) (hr' : Reads w w.heap.size 1 A' n (svs l)) (hn : n ≤ 200000) :
    Calls Try.prog 24 #[.slice A n c, .slice A' n c'] w fun e w' => e = .returned (.bool true) ∧ Below w.heap.size w w' := by
  have hl := hide hr.slen
  go_enter Try.func24, Try.ntmps24
  go_wp2_with fail
  go_loopw [5] (fun i wr => ∃ t : Nat, t ≤ n ∧ i = .int .i64 t ∧ Below w.heap.size w wr) (fun i _ => n - (intOf i).toNat)
  case atStart => exact ⟨0, by omega, rfl, Below.refl _ _⟩
  case round =>
    obtain ⟨t, ht, rfl, hb⟩ := hrel
    by_cases htn : t < n
    · have htI : (t : Int) < (n : Int) := by omega
      have ht0 : (0 : Int) ≤ (t : Int) := by omega
      obtain ⟨b1, o1, s1, rfl, hb1, hs1, hc1⟩ := (hr.below hb).text htn
      obtain ⟨b2, o2, s2, rfl, hb2, hs2, hc2⟩ := (hr'.below hb).text htn
      obtain rfl : s1 = s2 := by rw [hs1] at hs2; exact Option.some.inj hs2
      have hw2 : IntKind.i64.wrap ((t : Int) + 1) = (t : Int) + 1 := IntWalk.i64_in _ (by omega)
      go_wp2_with fail
      go_quiet (fail)
      have hbd : Below w.heap.size w (wr.drewN nq) := below_drewN hb _
      generalize wr.drewN nq = wd at *
      go_wp2_with fail
      go_roundw
      case rel => exact ⟨t + 1, by omega, by simp, hbd⟩
      case measure => simp [intOf]; omega
    · have htI : ¬ (t : Int) < (n : Int) := by omega
      go_wp2_with fail
      go_ret
      exact ⟨rfl, hb⟩

def sA : ByteArray := ⟨#[97]⟩
def sB : ByteArray := ⟨#[98]⟩
def sX : ByteArray := ⟨#[120]⟩
def sY : ByteArray := ⟨#[121]⟩
theorem hits_known : (hits [sY, sX, sA] sX 3).length = 1 := by decide +kernel
theorem left_known : leftOf [sY, sX, sA] sX = [sY, sA] := by
  have h1 : (sY.toList == sX.toList) = false := by decide +kernel
  have h3 : (sA.toList == sX.toList) = false := by decide +kernel
  simp [leftOf, h1, h3]
theorem Blk.texts {w : World} {k n : Nat} {l : List ByteArray} (h : Blk w k 9 (svs l).toArray) (hn : l.length = n) : Reads w w.heap.size 1 (some ⟨k, 0, none⟩) n (svs l) := by
  have := h.reads (n := w.heap.size) (k := 0) (m := n) h.lt (by simp [svs_length, hn])
  rw [List.drop_zero, List.take_of_length_le (by simp [svs_length, hn])] at this
  exact this

set_option maxHeartbeats 2000000 in
theorem works_any (w : World) : Calls Try.prog 9 #[] w fun e w' => e = .returned (.bool true) ∧ Below w.heap.size w w' := by
  go_enter Try.func9, Try.ntmps9
  go_wp2_with (first
    | (go_at_call 15
       go_must (
       have hk0 : Blk (w.alloc (.cells #[.string ⟨#[97]⟩, .string ⟨#[98]⟩] 9)) w.heap.size 9 (svs [sA, sB]).toArray := Blk.new w _ _
       have hb0 : Below w.heap.size w (w.alloc (.cells #[.string ⟨#[97]⟩, .string ⟨#[98]⟩] 9)) := (Below.refl _ w).alloc (Nat.le_refl _) _
       generalize w.alloc (.cells #[.string ⟨#[97]⟩, .string ⟨#[98]⟩] 9) = w0 at *
       refine (new_any _ 2 2 [sA, sB] w0 (hk0.texts rfl) (by decide) (by intro s hs; simp only [List.mem_cons, List.not_mem_nil, or_false] at hs; rcases hs with rfl | rfl <;> decide)).mono ?_
       rintro e w1 ⟨g, rfl, hD1, hb1⟩
       have hbw1 := hb0.trans (hb1.mono hb0.size)))
    | (go_at_call 20
       go_must (
       have hk1 : Blk (w1.alloc (.cells #[.string ⟨#[120]⟩, .string ⟨#[121]⟩] 9)) w1.heap.size 9 (svs [sX, sY]).toArray := Blk.new w1 _ _
       have hb2 : Below w1.heap.size w1 (w1.alloc (.cells #[.string ⟨#[120]⟩, .string ⟨#[121]⟩] 9)) := (Below.refl _ w1).alloc (Nat.le_refl _) _
       have hD2 := hD1.k.add hb2 (Nat.le_refl _) (by simp)
       generalize w1.alloc (.cells #[.string ⟨#[120]⟩, .string ⟨#[121]⟩] 9) = w2 at *
       refine (pushFront_any _ 2 2 [sX, sY] w2 hD2 (by have := hb1.size; have := hb2.size; omega) (hk1.texts rfl) (fun _ b o e => .inr (.inr (by cases e; rfl))) (by decide) (by intro s hs; simp only [List.mem_cons, List.not_mem_nil, or_false] at hs; rcases hs with rfl | rfl <;> decide)).mono ?_
       rintro e w3 ⟨rfl, hD3, hb3, _⟩
       have hD3' : DQ w0.heap.size w3 g [sY, sX, sA, sB] := hD3.q
       have hbw3 := (hbw1.trans (hb2.mono hbw1.size)).trans (hb3.mono hb0.size)))
    | (go_at_call 10
       go_must (
       refine (span_any 5 1 (-2) ⟨by decide, by decide⟩ ⟨by decide, by decide⟩ ⟨by decide, by decide⟩ w3).mono ?_
       rintro e w3' ⟨rfl, rfl⟩
       rw [show spanA 5 1 (-2) = 1 by decide, show spanB 5 1 (-2) = 4 by decide]))
    | (go_at_call 17
       go_must (
       refine (popBack_any sB [sY, sX, sA] w3 hD3' rfl).mono ?_
       rintro e w4 ⟨rfl, hD4, hb4⟩
       have hbw4 := hbw3.trans (hb4.mono hb0.size)
       unfold sB))
    | (go_at_call 18
       go_must (
       refine (num_any 0 _).mono ?_
       rintro e w4' ⟨rfl, rfl⟩))
    | (go_at_call 23
       go_must (
       refine (range_any w4 hD4 0 (-1) ⟨by decide, by decide⟩ ⟨by decide, by decide⟩).mono ?_
       rintro e w5 ⟨v5, rfl, hown5, hb5⟩
       rw [rangeOf_all] at hown5
       obtain ⟨A5, cap5, rfl, hc51, hc52⟩ := own_slice hown5
       rw [show ([sY, sX, sA] : List ByteArray).length = 3 from rfl] at hown5 hc51
       have hbw5 := hbw4.trans (hb5.mono hbw4.size)
       have hD5 := hD4.below hb5))
    | (go_at_call 24
       go_must (
       have hk6 : Blk (w5.alloc (.cells #[.string ⟨#[121]⟩, .string ⟨#[120]⟩, .string ⟨#[97]⟩] 9)) w5.heap.size 9 (svs [sY, sX, sA]).toArray := Blk.new w5 _ _
       have hr6 : Reads (w5.alloc (.cells #[.string ⟨#[121]⟩, .string ⟨#[120]⟩, .string ⟨#[97]⟩] 9)) (w5.alloc (.cells #[.string ⟨#[121]⟩, .string ⟨#[120]⟩, .string ⟨#[97]⟩] 9)).heap.size 1 A5 3 (svs [sY, sX, sA]) := ((Reads.of_own hown5).alloc (Nat.le_refl _) _).more (by simp)
       have hb6 : Below w5.heap.size w5 (w5.alloc (.cells #[.string ⟨#[121]⟩, .string ⟨#[120]⟩, .string ⟨#[97]⟩] 9)) := (Below.refl _ w5).alloc (Nat.le_refl _) _
       generalize w5.alloc (.cells #[.string ⟨#[121]⟩, .string ⟨#[120]⟩, .string ⟨#[97]⟩] 9) = w6 at *
       refine (same_like A5 3 cap5 _ 3 [sY, sX, sA] w6 hr6 (hk6.texts rfl) (by decide)).mono ?_
       rintro e w7 ⟨rfl, hb7⟩
       have hbw7 := (hbw5.trans (hb6.mono hbw5.size)).trans (hb7.mono (Nat.le_trans hbw5.size hb6.size))
       have hD7 := (hD5.below hb6).below hb7))
    | (go_at_call 30
       go_must (
       refine (drop_any sX w7 hD7 (by have := hb0.size; have := hbw7.size; have := hb1.size; have := hb2.size; have := hb3.size; have := hb4.size; have := hb5.size; have := hb6.size; have := hb7.size; omega) (by decide)).mono ?_
       rintro e w8 ⟨rfl, hD8, hb8⟩
       rw [left_known] at hD8
       rw [show ([sY, sX, sA] : List ByteArray).length = 3 from rfl, hits_known]
       have hbw8 := hbw7.trans (hb8.mono hb0.size)
       obtain ⟨A8, len8, cap8, first8, ring8, hx8⟩ := hD8
       have hBk8 := hx8.1
       rw [show ([sY, sA] : List ByteArray).length = 2 from rfl] at hBk8))
    | (go_at_call 21
       go_must (
       refine (len_any g _ _ 2 w8 hBk8).mono ?_
       rintro e w8' ⟨rfl, rfl⟩))
    | fail)
  go_ret
  exact ⟨ret_bool rfl, hbw8⟩
end Go.Proofs.Ytlglelgnpkdnbaa
