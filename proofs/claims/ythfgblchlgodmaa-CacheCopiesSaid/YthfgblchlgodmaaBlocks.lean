/- The iterator over the blocks of padded bytes (package sums). -/
import Derived.Test.YthfgblchlgodmaaPad
import Derived.Test.YthfgblchlgodmaaRange
namespace Go.Proofs.Ythfgblchlgodmaa
open Go.RowKit Go.Shelf
set_option linter.unusedVariables false
attribute [local go_sem] Oper.semAt_some

/-- the first k blocks of 64 bytes -/
def chunks : Nat → List UInt8 → List (List UInt8)
  | 0, _ => []
  | k + 1, l => l.take 64 :: chunks k (l.drop 64)
theorem be8_length (n : Nat) : (be8 n).length = 8 := rfl
theorem padded_length (l : List UInt8) : (padded l).length = l.length + 9 + zerosOf l.length := by
  simp [padded, be8_length]; omega
theorem padded_mod (l : List UInt8) : (padded l).length = 64 * ((padded l).length / 64) := by
  have := padded_length l
  unfold zerosOf at this
  omega

/-- what has come: where it lies, how much room is behind, its bytes -/
abbrev Blk64 := Option Addr × Nat × List UInt8
def encB (x : Blk64) : Array Value := #[.slice x.1 64 x.2.1]
def HiReads (B : Nat) (W : World) (A : Option Addr) (n : Nat) (l : List UInt8) : Prop :=
  Reads W W.heap.size 1 A n (bvs l) ∧ ∀ b o, A = some ⟨b, o, none⟩ → B ≤ b
def RxB (x : Blk64) (W : World) : Prop := Reads W W.heap.size 1 x.1 64 (bvs x.2.2) ∧ 64 ≤ x.2.1 ∧ x.2.1 ≤ maxLen
/-- what a round keeps: the cells of all blocks from B on -/
def KeepsCells (B : Nat) (W W' : World) : Prop := W.heap.size ≤ W'.heap.size ∧ ∀ b o v, B ≤ b → W.cell? ⟨b, o, none⟩ = some v → W'.cell? ⟨b, o, none⟩ = some v
theorem KeepsCells.trans {B : Nat} {X Y Z : World} (h : KeepsCells B X Y) (k : KeepsCells B Y Z) : KeepsCells B X Z := ⟨Nat.le_trans h.1 k.1, fun b o v hb hv => k.2 b o v hb (h.2 b o v hb hv)⟩
theorem keeps_putObj {w : World} (W : World) (l : Nat) (o o' : Obj) (_ : w.heap.size ≤ l) (h : W.heap[l]? = some o) (hc : o.isCells = false) (_ : o.isWalk = false) : KeepsCells w.heap.size W (W.putObj l o') :=
  ⟨by simp [World.putObj], fun b q v _ hv => cell_kept hv (grownBy_putObj' W l o') (fun r e => by cases e; exact ⟨o, h, hc⟩)⟩
theorem Reads.kept {W W' : World} {B B' n : Nat} {A : Option Addr} {xs : List Value} (h : Reads W B 1 A n xs) (hB : B ≤ B') (hc : ∀ b o q v, A = some ⟨b, o, none⟩ → W.cell? ⟨b, q, none⟩ = some v → W'.cell? ⟨b, q, none⟩ = some v) : Reads W' B' 1 A n xs :=
  ⟨h.1, fun hn => by
    obtain ⟨b, o, e, hb, hx⟩ := h.2 hn
    exact ⟨b, o, e, by omega, fun j u hu => hc _ _ _ _ e (hx j u hu)⟩⟩
theorem rx_own (B : Nat) : OwnFrom B RxB := fun x W W' row hs hg hr =>
  ⟨hs.1.kept hg.size (fun b o q v _ hv => cell_kept hv hg (fun r e => (hr r e).2)), hs.2⟩
theorem HiReads.keeps {B : Nat} {W W' : World} {A : Option Addr} {n : Nat} {l : List UInt8} (h : HiReads B W A n l) (hk : KeepsCells B W W') : HiReads B W' A n l :=
  ⟨h.1.kept hk.1 (fun b o q v hA hv => hk.2 b q v (h.2 b o hA) hv), h.2⟩

theorem HiReads.next {B : Nat} {W : World} {A : Option Addr} {k c : Nat} {l : List UInt8} (h : HiReads B W A (64 * (k + 1)) l) (hc : 64 * (k + 1) ≤ c) (hl : l.length = 64 * (k + 1)) :
    HiReads B W (if c = 64 then A else A.map (·.add 64)) (64 * k) (l.drop 64) := by
  refine ⟨?_, fun b o e => ?_⟩
  · have h1 := h.1.cut (k := 64) (m := 64 * k) (cap := c) (by omega) hc
    rw [bvs_drop, bvs_take, List.take_of_length_le (by simp [hl]; omega)] at h1
    exact h1
  · split at e
    · exact h.2 b o e
    · obtain ⟨b2, o2, rfl, _⟩ := h.1.2 (by omega)
      have e2 : b2 = b := by
        simp only [Option.map_some, Addr.add, if_neg (show ¬ (64 : Nat) = 0 by decide)] at e
        injection e with e
        injection e
      subst e2
      exact h.2 _ o2 rfl

set_option maxHeartbeats 1000000 in
theorem blocks_told (m : Nat) (A : Option Addr) (n c : Nat) (l : List UInt8) (Bb : Nat) (w : World) (hbx : w.cell? ⟨Bb, 0, none⟩ = some (.slice A n c)) (hBb : Bb < w.heap.size)
    (hr : Reads w w.heap.size 1 A n (bvs l)) (hn : n ≤ 100000) :
    SeqTold Fence.wide m Try.prog 65 #[.pointer (some ⟨Bb, 0, none⟩)] encB RxB (KeepsCells w.heap.size) (fun xs => xs.map (·.2.2) = chunks ((padded l).length / 64) (padded l)) w := by
  intro lp J W hW hJ hY h0
  have hbx' := (hW.cell (p := ⟨Bb, 0, none⟩) hBb).trans hbx
  have hr' := (hr.below hW).more hW.size
  refine callsIn_of_wp Try.func65 rfl trivial ?_ rfl
  simp only [Try.ntmps65, List.size_toArray, List.length_cons, List.length_nil, Nat.reduceAdd, Nat.reduceSub, Array.replicate_succ, Array.replicate_zero, List.push_toArray, List.append_toArray, List.nil_append, List.cons_append]
  gi_wp2_with fail
  refine ⟨trivial, fun h => (by cases h), (callsIn_wide.2 (pad_any A n c l W hr' hn)).mono ?_⟩
  rintro e w1 ⟨v, rfl, hv, hb1⟩
  gi_wp2_with fail
  have hlen := padded_mod l
  have hpos : 0 < (padded l).length := by rw [padded_length]; omega
  obtain ⟨g, cap, rfl, hc1, hc2, hg1, hg2⟩ := own_form hv hpos
  have hrd : HiReads w.heap.size w1 (some ⟨g, 0, none⟩) (padded l).length (padded l) := ⟨Reads.of_own hv, fun b o e => by
    injection e with e; injection e with e; subst e; exact Nat.le_trans hW.size hg1⟩
  have hJ1 : J [] w1 := hJ [] W w1 none h0 ⟨hb1.os, hb1.tape, hb1.output, hb1.size, fun k hk _ => hb1.block k hk⟩ (fun r e => by cases e)
  generalize hK : (padded l).length / 64 = K at *
  generalize hN : (padded l).length = N at *
  have hll : (padded l).length = N := hN
  generalize hpl : padded l = pl at *
  have HPL := hide hpl
  clear hpl
  subst hlen
  gi_loopw [3] (fun p wr => ∃ (k : Nat) (pre : List Blk64) (rest : List UInt8) (A' : Option Addr) (c' : Nat), p = .slice A' (64 * k) c' ∧ 64 * k ≤ c' ∧ c' ≤ maxLen ∧ rest.length = 64 * k ∧ HiReads w.heap.size wr A' (64 * k) rest ∧ pre.map (·.2.2) ++ chunks k rest = chunks K pl ∧ J pre wr)
    (fun p wr => lenOf p)
  case atStart => exact ⟨K, [], pl, some ⟨g, 0, none⟩, cap, rfl, hc1, hc2, hll, hrd, rfl, hJ1⟩
  case round =>
    obtain ⟨k, pre, rest, A', c', rfl, h1, h2, h3, h4, h5, h6⟩ := hrel
    cases k with
    | zero =>
      gi_wp2_with fail
      go_end0
      exact ⟨⟨_, rfl⟩, pre, by rw [HPL.out, hN, hK, ← h5]; simp [chunks], h6⟩
    | succ k =>
      have hrx : RxB (A', c', rest.take 64) wr := ⟨h4.1.front (by omega), (show 64 ≤ c' by omega), h2⟩
      obtain ⟨fn, tmps, assign, body, hy, hR⟩ := hY pre (A', c', rest.take 64) wr h6 hrx
      dsimp only [encB] at hy
      have hpos' : (0 : Int) < ((64 * (k + 1) : Nat) : Int) := by omega
      gi_wp2_with fail
      refine ⟨fun h => (by cases h), hR.mono ?_⟩
      rintro e W3 ⟨rfl, hJ3, hk3⟩
      gi_wp2_with fail
      go_roundw
      case rel =>
        refine ⟨k, pre ++ [(A', c', rest.take 64)], rest.drop 64, if c' = 64 then A' else A'.map (·.add 64), c' - 64, ?_, by omega, by omega, by simp [h3]; omega, (h4.keeps hk3).next h1 h3, by rw [← h5]; simp [chunks], hJ3⟩
        rw [show 64 * (k + 1) - 64 = 64 * k by omega]
        simp [Addr.add]
      case measure => simp [lenOf]; omega
end Go.Proofs.Ythfgblchlgodmaa
