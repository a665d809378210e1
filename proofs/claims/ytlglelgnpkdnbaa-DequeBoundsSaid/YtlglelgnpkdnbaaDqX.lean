/- The walks of the law's helpers few, all and is (package taborlaw06). Conditions: those of each theorem. -/
import Derived.Test.YtlglelgnpkdnbaaDqW
namespace Go.Proofs.Ytlglelgnpkdnbaa
open Go.RowKit Go.Shelf
set_option linter.unusedVariables false
attribute [local go_sem] Oper.semAt_some

def acc (l : List ByteArray) (t : Nat) : Nat := ((l.take t).map fun s => 10 + s.size).sum
theorem acc_succ {l : List ByteArray} {t : Nat} {s : ByteArray} (hs : l[t]? = some s) : acc l (t + 1) = acc l t + 10 + s.size := by
  unfold acc
  rw [take_snoc0 hs, List.map_append, List.sum_append]
  simp
  omega
theorem acc_all : ∀ (l : List ByteArray), l.length * 10 ≤ (l.map fun s => 10 + s.size).sum ∧ ∀ s ∈ l, s.size ≤ (l.map fun s => 10 + s.size).sum
  | [] => ⟨by simp, fun s hs => by cases hs⟩
  | x :: r => by
    obtain ⟨h1, h2⟩ := acc_all r
    refine ⟨by simp; omega, fun s hs => ?_⟩
    rcases List.mem_cons.1 hs with rfl | hs
    · simp; omega
    · have := h2 s hs
      simp
      omega
theorem few_facts {l : List ByteArray} (h : acc l l.length ≤ 3000) : l.length ≤ 300 ∧ ∀ s ∈ l, s.size ≤ 3000 := by
  unfold acc at h
  rw [List.take_length] at h
  obtain ⟨h1, h2⟩ := acc_all l
  exact ⟨by omega, fun s hs => by have := h2 s hs; omega⟩

theorem acc_le (l : List ByteArray) (t : Nat) : acc l t ≤ acc l l.length := by
  have h : (l.map fun s => 10 + s.size).sum = acc l t + ((l.drop t).map fun s => 10 + s.size).sum := by
    unfold acc
    rw [← List.sum_append, ← List.map_append, List.take_append_drop]
  unfold acc at *
  rw [List.take_length]
  omega
def FewPost (l : List ByteArray) (e : Ending) : Prop := e = .returned (.bool (decide (acc l l.length ≤ 3000)))
theorem ret_boolX {a b : Bool} (h : a = b) : Ending.returned (.bool a) = .returned (.bool b) := by rw [h]
set_option maxHeartbeats 1000000 in
theorem few_any (A : Option Addr) (n c : Nat) (l : List ByteArray) (w : World) {B : Nat} (hr : Reads w B 1 A n (svs l)) (hn : n ≤ maxLen) (hs : ∀ s ∈ l, s.size ≤ 140737488351232) :
    Calls Try.prog 14 #[.slice A n c] w fun e w' => FewPost l e ∧ w = w' := by
  have hn' : n ≤ 9223372036854775807 := hn
  have hl := hide hr.slen
  go_enter Try.func14, Try.ntmps14
  go_wp2_with fail
  go_loopw [3, 4] (fun a i wr => ∃ t : Nat, t ≤ n ∧ a = .int .i64 (acc l t) ∧ i = .int .i64 t ∧ acc l t ≤ 200000000000000 ∧ wr = w) (fun _ i _ => n - (intOf i).toNat)
  case atStart => exact ⟨0, by omega, by simp [acc], rfl, by simp [acc], rfl⟩
  case round =>
    obtain ⟨t, ht, rfl, rfl, hacc, rfl⟩ := hrel
    by_cases htn : t < n
    · have htI : (t : Int) < (n : Int) := by omega
      by_cases h3 : acc l t ≤ 3000
      · have h3I : (acc l t : Int) ≤ 3000 := by omega
        have ht0 : (0 : Int) ≤ (t : Int) := by omega
        obtain ⟨b, o, s, rfl, hb, hls, hc⟩ := hr.text htn
        have hss := hs s (List.mem_of_getElem? hls)
        have hnx := hide (acc_succ hls)
        have hw1 : IntKind.i64.wrap ((acc l t : Int) + 10) = (acc l t : Int) + 10 := IntWalk.i64_in _ (by omega)
        have hw3 : IntKind.i64.wrap ((acc l t : Int) + 10 + (s.size : Int)) = (acc l t : Int) + 10 + (s.size : Int) := IntWalk.i64_in _ (by omega)
        have hw2 : IntKind.i64.wrap ((t : Int) + 1) = (t : Int) + 1 := IntWalk.i64_in _ (by omega)
        generalize acc l t = k at *
        go_wp2_with fail
        go_roundw
        case rel => exact ⟨t + 1, by omega, by rw [hnx.out]; simp, by simp, by rw [hnx.out]; omega, by first | rfl | trivial⟩
        case measure => simp [intOf]; omega
      · have h3I : ¬ (acc l t : Int) ≤ 3000 := by omega
        have hx : decide (acc l l.length ≤ 3000) = false := by have := acc_le l t; simp; omega
        have HX := hide hx
        clear hx
        generalize acc l t = k at *
        go_wp2_with fail
        go_ret
        exact ⟨by unfold FewPost; rw [HX.out]; rfl, rfl⟩
    · have htI : ¬ (t : Int) < (n : Int) := by omega
      obtain rfl : t = n := by omega
      have hx : acc l l.length = acc l t := by rw [hl.out]
      have HX := hide hx
      clear hx
      generalize acc l t = k at *
      go_wp2_with fail
      go_ret
      refine ⟨?_, rfl⟩
      unfold FewPost
      rw [HX.out]
      exact ret_boolX (by simp; omega)

/-! all: the texts that All tells, by appends -/
def KeepsS (S : Nat → Prop) (W W' : World) : Prop := W.heap.size ≤ W'.heap.size ∧ ∀ b o v, S b → W.cell? ⟨b, o, none⟩ = some v → W'.cell? ⟨b, o, none⟩ = some v
theorem KeepsS.trans {S : Nat → Prop} {X Y Z : World} (h : KeepsS S X Y) (k : KeepsS S Y Z) : KeepsS S X Z := ⟨Nat.le_trans h.1 k.1, fun b o v hb hv => k.2 b o v hb (h.2 b o v hb hv)⟩
theorem keepsS_putObj {S : Nat → Prop} (W : World) (l : Nat) (o o' : Obj) (h : W.heap[l]? = some o) (hc : o.isCells = false) : KeepsS S W (W.putObj l o') :=
  ⟨by simp [World.putObj], fun b q v _ hv => cell_kept hv (grownBy_putObj' W l o') (fun r e => by cases e; exact ⟨o, h, hc⟩)⟩

set_option maxHeartbeats 1000000 in
theorem all1_toldP (m : Nat) (bx : Nat) (A : Option Addr) (n c : Nat) (l : List ByteArray) (w : World) (hbx : w.cell? ⟨bx, 0, none⟩ = some (.slice A n c)) (hbl : bx < w.heap.size)
    (hr : Reads w w.heap.size 1 A n (svs l)) (hn : n ≤ 200000) :
    SeqToldP Fence.wide m Try.prog 43 #[.pointer (some ⟨bx, 0, none⟩)] encN (fun pre x _ => l[x.1]? = some x.2 ∧ pre.length = x.1 ∧ pre.map (·.2) = l.take x.1) (KeepsS (fun b => ∃ o, A = some ⟨b, o, none⟩)) (fun xs => xs.map (·.2) = l ∧ xs.length = l.length) w := by
  intro lp J W hW hJ hY h0
  have hbx' := (hW.cell (p := ⟨bx, 0, none⟩) hbl).trans hbx
  have hr' : Reads W W.heap.size 1 A n (svs l) := (hr.below hW).more hW.size
  have hl := hide hr.slen
  refine callsIn_of_wp Try.func43 rfl trivial ?_ rfl
  simp only [Try.ntmps43, List.size_toArray, List.length_cons, List.length_nil, Nat.reduceAdd, Nat.reduceSub, Array.replicate_succ, Array.replicate_zero, List.push_toArray, List.append_toArray, List.nil_append, List.cons_append]
  gi_wp2_with fail
  gi_loopw [3, 4, 7] (fun _ _ i wr => ∃ (t : Nat) (pre : List Num), i = .int .i64 t ∧ t ≤ n ∧ pre.length = t ∧ pre.map (·.2) = l.take t ∧ Reads wr wr.heap.size 1 A n (svs l) ∧ J pre wr)
    (fun _ _ i _ => n - (intOf i).toNat)
  case atStart => exact ⟨0, [], rfl, by omega, rfl, rfl, hr', h0⟩
  case round =>
    obtain ⟨t, pre, rfl, ht, h1, h2, h3, h4⟩ := hrel
    by_cases htn : t < n
    · have htI : (t : Int) < (n : Int) := by omega
      obtain ⟨b, o, s, rfl, hb, hls, hcell⟩ := h3.text htn
      obtain ⟨fn, tmps, assign, body, hy, hR⟩ := hY pre (t, s) wr h4 ⟨hls, h1, h2⟩
      dsimp only [encN] at hy
      have hw2 : IntKind.i64.wrap ((t : Int) + 1) = (t : Int) + 1 := IntWalk.i64_in _ (by omega)
      gi_wp2_with fail
      refine ⟨fun h => (by cases h), hR.mono ?_⟩
      rintro e W3 ⟨rfl, hJ3, hk3⟩
      gi_wp2_with fail
      go_roundw
      case rel =>
        refine ⟨t + 1, pre ++ [(t, s)], by simp, by omega, by simp [h1], ?_, h3.kept hk3.1 (fun b' o' q v hA hv => hk3.2 b' q v ⟨o', hA⟩ hv), hJ3⟩
        rw [List.map_append, h2, List.take_add_one, hls]; rfl
      case measure => simp [intOf]; omega
    · have htI : ¬ (t : Int) < (n : Int) := by omega
      obtain rfl : t = n := by omega
      gi_wp2_with fail
      go_end0
      refine ⟨⟨_, rfl⟩, pre, ⟨?_, by rw [h1, hl.out]⟩, h4⟩
      rw [h2, List.take_of_length_le (by rw [hl.out]; omega)]
end Go.Proofs.Ytlglelgnpkdnbaa
