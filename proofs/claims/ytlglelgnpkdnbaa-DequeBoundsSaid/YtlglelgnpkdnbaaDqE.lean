/- The iterator over a deque's texts (All), as a range over it is told. Conditions: those of each theorem. -/
import Derived.Test.YtlglelgnpkdnbaaDqD
import Derived.Test.YtlglelgnpkdnbaaRange
namespace Go.Proofs.Ytlglelgnpkdnbaa
open Go.RowKit Go.Shelf
set_option linter.unusedVariables false
attribute [local go_sem] Oper.semAt_some

/-- what a round keeps: the cells of all blocks from B on -/
def KeepsCells (B : Nat) (W W' : World) : Prop := W.heap.size ≤ W'.heap.size ∧ ∀ b o v, B ≤ b → W.cell? ⟨b, o, none⟩ = some v → W'.cell? ⟨b, o, none⟩ = some v
theorem KeepsCells.trans {B : Nat} {X Y Z : World} (h : KeepsCells B X Y) (k : KeepsCells B Y Z) : KeepsCells B X Z := ⟨Nat.le_trans h.1 k.1, fun b o v hb hv => k.2 b o v hb (h.2 b o v hb hv)⟩
theorem keeps_putObj {B : Nat} (W : World) (l : Nat) (o o' : Obj) (h : W.heap[l]? = some o) (hc : o.isCells = false) : KeepsCells B W (W.putObj l o') :=
  ⟨by simp [World.putObj], fun b q v _ hv => cell_kept hv (grownBy_putObj' W l o') (fun r e => by cases e; exact ⟨o, h, hc⟩)⟩
theorem Reads.kept {W W' : World} {B B' n : Nat} {A : Option Addr} {xs : List Value} (h : Reads W B 1 A n xs) (hB : B ≤ B') (hc : ∀ b o q v, A = some ⟨b, o, none⟩ → W.cell? ⟨b, q, none⟩ = some v → W'.cell? ⟨b, q, none⟩ = some v) : Reads W' B' 1 A n xs :=
  ⟨h.1, fun hn => by
    obtain ⟨b, o, e, hb, hx⟩ := h.2 hn
    exact ⟨b, o, e, by omega, fun j u hu => hc _ _ _ _ e (hx j u hu)⟩⟩
def HiT (B : Nat) (W : World) (A : Option Addr) (n : Nat) (l : List ByteArray) : Prop := Reads W W.heap.size 1 A n (svs l) ∧ ∀ b o, A = some ⟨b, o, none⟩ → B ≤ b
theorem HiT.keeps {B : Nat} {W W' : World} {A : Option Addr} {n : Nat} {l : List ByteArray} (h : HiT B W A n l) (hk : KeepsCells B W W') : HiT B W' A n l :=
  ⟨h.1.kept hk.1 (fun b o q v hA hv => hk.2 b q v (h.2 b o hA) hv), h.2⟩

abbrev Num := Nat × ByteArray
def encN (x : Num) : Array Value := #[.int .i64 x.1, .string x.2]
def IsAll (l : List ByteArray) (xs : List Num) : Prop := xs.map (·.1) = List.range l.length ∧ xs.map (·.2) = l

set_option maxHeartbeats 1000000 in
theorem all1_told (m : Nat) (bx : Nat) (A : Option Addr) (n c : Nat) (l : List ByteArray) (B0 : Nat) (w : World) (hbx : w.cell? ⟨bx, 0, none⟩ = some (.slice A n c)) (hbl : bx < w.heap.size) (hb0 : B0 ≤ bx)
    (hr : HiT B0 w A n l) (hn : n ≤ 200000) :
    SeqTold Fence.wide m Try.prog 43 #[.pointer (some ⟨bx, 0, none⟩)] encN (fun x _ => l[x.1]? = some x.2) (KeepsCells B0) (IsAll l) w := by
  intro lp J W hW hJ hY h0
  have hbx' := (hW.cell (p := ⟨bx, 0, none⟩) hbl).trans hbx
  have hr' : HiT B0 W A n l := ⟨(hr.1.below hW).more hW.size, hr.2⟩
  have hl := hide hr.1.slen
  refine callsIn_of_wp Try.func43 rfl trivial ?_ rfl
  simp only [Try.ntmps43, List.size_toArray, List.length_cons, List.length_nil, Nat.reduceAdd, Nat.reduceSub, Array.replicate_succ, Array.replicate_zero, List.push_toArray, List.append_toArray, List.nil_append, List.cons_append]
  gi_wp2_with fail
  gi_loopw [3, 4, 7] (fun _ _ i wr => ∃ (t : Nat) (pre : List Num), i = .int .i64 t ∧ t ≤ n ∧ pre.map (·.1) = List.range t ∧ pre.map (·.2) = l.take t ∧ HiT B0 wr A n l ∧ J pre wr)
    (fun _ _ i _ => n - (intOf i).toNat)
  case atStart => exact ⟨0, [], rfl, by omega, rfl, rfl, hr', h0⟩
  case round =>
    obtain ⟨t, pre, rfl, ht, h1, h2, h3, h4⟩ := hrel
    by_cases htn : t < n
    · have htI : (t : Int) < (n : Int) := by omega
      obtain ⟨b, o, s, rfl, hb, hls, hcell⟩ := h3.1.text htn
      obtain ⟨fn, tmps, assign, body, hy, hR⟩ := hY pre (t, s) wr h4 hls
      dsimp only [encN] at hy
      have hw2 : IntKind.i64.wrap ((t : Int) + 1) = (t : Int) + 1 := IntWalk.i64_in _ (by omega)
      gi_wp2_with fail
      refine ⟨fun h => (by cases h), hR.mono ?_⟩
      rintro e W3 ⟨rfl, hJ3, hk3⟩
      gi_wp2_with fail
      go_roundw
      case rel =>
        refine ⟨t + 1, pre ++ [(t, s)], by simp, by omega, ?_, ?_, h3.keeps hk3, hJ3⟩
        · rw [List.map_append, h1, List.range_succ]; rfl
        · rw [List.map_append, h2, List.take_add_one, hls]; rfl
      case measure => simp [intOf]; omega
    · have htI : ¬ (t : Int) < (n : Int) := by omega
      obtain rfl : t = n := by omega
      gi_wp2_with fail
      go_end0
      refine ⟨⟨_, rfl⟩, pre, ⟨by rw [h1, hl.out], ?_⟩, h4⟩
      rw [h2, List.take_of_length_le (by rw [hl.out]; omega)]

theorem rangeOf_all (l : List ByteArray) : rangeOf l 0 (-1) = l := by
  have hA : spanA l.length 0 (-1) = 0 := by unfold spanA spanHi spanLo; (repeat' split) <;> omega
  have hB : spanB l.length 0 (-1) = l.length := by unfold spanB spanHi spanLo; (repeat' split) <;> omega
  unfold rangeOf spA spB
  rw [hA, hB]
  simp

theorem all_any {B g : Nat} {l : List ByteArray} (w : World) (h : DQ B w g l) :
    Calls Try.prog 37 #[.pointer (some ⟨g, 0, none⟩)] w fun e w' => ∃ bx v, e = .returned (.func (.func 43) #[] #[.pointer (some ⟨bx, 0, none⟩)]) ∧ w.heap.size ≤ bx ∧ Blk w' bx 29 #[v] ∧ w'.ownsRow w.heap.size 9 1 v l.length (svs l) ∧ Below w.heap.size w w' := by
  go_enter Try.func37, Try.ntmps37
  go_wp2_with (first
    | (go_at_call 23
       go_must (
       refine (range_any w h 0 (-1) ⟨by decide, by decide⟩ ⟨by decide, by decide⟩).mono ?_
       rintro e w1 ⟨v, rfl, hown, hb⟩
       rw [rangeOf_all] at hown
       obtain ⟨A, cap, rfl, hcap, hcm⟩ := own_slice hown))
    | fail)
  go_ret
  exact ⟨w1.heap.size, _, rfl, hb.size, Blk.new w1 _ _, hown.alloc _, hb.alloc hb.size _⟩
end Go.Proofs.Ytlglelgnpkdnbaa
