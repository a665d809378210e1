/- The walks of push, PushFront, PushBack (package deque). Conditions: those of each theorem. -/
import Derived.Test.YtlglelgnpkdnbaaDqH
namespace Go.Proofs.Ytlglelgnpkdnbaa
open Go.RowKit
set_option linter.unusedVariables false

/-- texts put to an end, one by one -/
def pushed (back : Bool) (l ts : List ByteArray) : List ByteArray := if back then l ++ ts else ts.reverse ++ l
theorem pushed_nil (b : Bool) (l : List ByteArray) : pushed b l [] = l := by cases b <;> simp [pushed]
theorem pushed_snoc (b : Bool) (l ts : List ByteArray) (s : ByteArray) : pushed b l (ts ++ [s]) = if b then pushed b l ts ++ [s] else s :: pushed b l ts := by cases b <;> simp [pushed]
theorem pushed_length (b : Bool) (l ts : List ByteArray) : (pushed b l ts).length = l.length + ts.length := by cases b <;> simp [pushed, Nat.add_comm]
theorem take_snoc0 {l : List ByteArray} {t : Nat} {s : ByteArray} (hs : l[t]? = some s) : l.take (t + 1) = l.take t ++ [s] := by
  rw [List.take_add_one, hs]
  rfl

theorem DQK.more {K K' : Nat → Prop} {B : Nat} {w : World} {g : Nat} {l : List ByteArray} (h : DQK K B w g l) (hk : ∀ k, K' k → K k) : DQK K' B w g l := by
  obtain ⟨A, len, cap, first, ring, h1, h2⟩ := h
  exact ⟨A, len, cap, first, ring, h1, fun k e => h2 k (hk k e)⟩
theorem DQK.below {K : Nat → Prop} {B : Nat} {w w' : World} {g : Nat} {l : List ByteArray} (h : DQK K B w g l) (hb : Below w.heap.size w w') : DQK K B w' g l := by
  obtain ⟨A, len, cap, first, ring, h1, h2⟩ := h
  exact ⟨A, len, cap, first, ring, h1.below hb, fun k e => ⟨by have := (h2 k e).1; have := hb.size; omega, (h2 k e).2⟩⟩
/-- a block made behind the deque is beside it -/
theorem DQK.add {K : Nat → Prop} {B : Nat} {w w' : World} {g k' : Nat} {l : List ByteArray} (h : DQK K B w g l) (hb : Below w.heap.size w w') (h1 : w.heap.size ≤ k') (h2 : k' < w'.heap.size) : DQK (fun k => K k ∨ k = k') B w' g l := by
  obtain ⟨A, len, cap, first, ring, hx, hk⟩ := h
  have hxb := hx.below hb
  refine ⟨A, len, cap, first, ring, hxb, fun k e => ?_⟩
  rcases e with e | rfl
  · exact ⟨by have := (hk k e).1; have := hb.size; omega, (hk k e).2⟩
  · refine ⟨h2, by have := hx.1.lt; omega, fun e => ?_⟩
    cases A with
    | none => cases e
    | some ad =>
      simp at e
      rcases hx.2.2.1.2 with ⟨h3, _⟩ | ⟨g', cap', cur, hv, hb', hg', _⟩
      · cases h3
      · injection hv with hv1 hv2 hv3
        injection hv1 with hv1
        subst hv1
        have := (Array.getElem?_eq_some_iff.1 hg').1
        simp at e
        omega

theorem run_func (i : Nat) (hi : i < 2) : (#[Value.func (.func 41) #[] #[], .func (.func 42) #[] #[]] : Array Value)[i]? = some (if i = 0 then .func (.func 41) #[] #[] else .func (.func 42) #[] #[]) := by
  rcases i with _ | _ | i
  · rfl
  · rfl
  · omega

set_option maxHeartbeats 2000000 in
theorem push_front {K : Nat → Prop} {B g : Nat} {l : List ByteArray} (A : Option Addr) (m c : Nat) (ts : List ByteArray) (w : World) (h : DQK K B w g l) (hB : B ≤ w.heap.size) (hr : Reads w w.heap.size 1 A m (svs ts)) (hA : 0 < m → ∀ b o, A = some ⟨b, o, none⟩ → b < B ∨ K b)
    (h6 : l.length + m ≤ 65536) (hs : ∀ s ∈ ts, s.size ≤ 1048576) :
    Calls Try.prog 34 #[.pointer (some ⟨g, 0, none⟩), .int .i64 0, .slice A m c] w fun e w' => e = .returned (.int .i64 0) ∧ DQK K B w' g (pushed false l ts) ∧ Below B w w' ∧ SameK K w w' := by
  have hlt := hide hr.slen
  have hh := h
  obtain ⟨A0, len, cap, first, ring, hx, _⟩ := hh
  have hBk := hx.1
  have c2 := hBk.cell 2
  rw [show (dcells A0 len cap first l.length)[2]? = some (.int .i64 l.length) from rfl] at c2
  go_enter Try.func34, Try.ntmps34
  go_wp2_with (first
    | (go_at_call 35; refine (none_any g _ _ _ w hBk).mono ?_; rintro e w1 ⟨rfl, rfl⟩)
    | (go_at_call 31; refine (fits_any l.length A m c ts w hr h6 hs).mono ?_; rintro e w1 ⟨rfl, rfl⟩)
    | fail)
  have hk1 := Blk.new w 71 #[.func (.func 41) #[] #[], .func (.func 42) #[] #[]]
  have hb1 : Below w.heap.size w (w.alloc (.cells #[.func (.func 41) #[] #[], .func (.func 42) #[] #[]] 71)) := (Below.refl _ w).alloc (Nat.le_refl _) _
  have hD1 := h.add hb1 (Nat.le_refl _) (by simp)
  have hr1 := (hr.below hb1).more hb1.size
  have hs1 : w.heap.size < (w.alloc (.cells #[.func (.func 41) #[] #[], .func (.func 42) #[] #[]] 71)).heap.size := by simp
  generalize w.alloc (.cells #[.func (.func 41) #[] #[], .func (.func 42) #[] #[]] 71) = W1 at *
  generalize hge : w.heap.size = ge at *
  have hge' := hide hge
  clear hge c2 hBk hx
  go_loopw [9, 22] (fun _ i wr => ∃ t : Nat, t ≤ m ∧ i = .int .i64 t ∧ DQK (fun k => K k ∨ k = ge) B wr g (pushed false l (ts.take t)) ∧ Below B W1 wr ∧ SameK (fun k => K k ∨ k = ge) W1 wr)
    (fun _ i _ => m - (intOf i).toNat)
  case atStart => exact ⟨0, by omega, rfl, by rw [List.take_zero, pushed_nil]; exact hD1, Below.refl _ _, fun k _ => rfl⟩
  case round =>
    obtain ⟨t, ht, rfl, hD, hbr, hsr⟩ := hrel
    have hlen : (pushed false l (ts.take t)).length = l.length + t := by rw [pushed_length, List.length_take, hlt.out]; omega
    by_cases htm : t < m
    · have htI : (t : Int) < (m : Int) := by omega
      obtain ⟨b, o, s, rfl, hb, hts, hc⟩ := hr1.text htm
      have hheap : wr.heap[b]? = W1.heap[b]? := by
        rcases hA (by omega) b o rfl with hbB | hbK
        · exact hbr.block b hbB
        · exact hsr b (.inl hbK)
      have hc' : wr.cell? ⟨b, o + t, none⟩ = some (.string s) := (World.cell?_of_block (a := ⟨b, o + t, none⟩) hheap).trans hc
      have hke : Blk wr ge 71 #[.func (.func 41) #[] #[], .func (.func 42) #[] #[]] := (hsr ge (.inr rfl)).trans hk1
      have e0 := hke.cell 0
      rw [show (#[Value.func (.func 41) #[] #[], .func (.func 42) #[] #[]] : Array Value)[0]? = some (.func (.func 41) #[] #[]) from rfl] at e0
      have hw2 : IntKind.i64.wrap ((t : Int) + 1) = (t : Int) + 1 := IntWalk.i64_in _ (by omega)
      have hD' := hD
      have hBw : B ≤ wr.heap.size := Nat.le_trans (Nat.le_trans hB (Nat.le_of_lt hs1)) hbr.size
      go_wp2_with (first
        | (go_at_call 41
           go_must (
           refine (front_any s wr hD hBw (by omega)).mono ?_
           rintro e w2 ⟨⟨v, rfl⟩, hD2, hb2, hs2⟩))
        | fail)
      go_roundw
      case rel =>
        refine ⟨t + 1, by omega, by simp, ?_, hbr.trans hb2, fun k e => (hs2 k e).trans (hsr k e)⟩
        rw [take_snoc0 hts, pushed_snoc]
        exact hD2
      case measure => simp [intOf]; omega
    · have htI : ¬ (t : Int) < (m : Int) := by omega
      obtain rfl : t = m := by omega
      rw [List.take_of_length_le (by rw [hlt.out]; omega)] at hD
      go_wp2_with fail
      go_ret
      have hbw : Below B w W1 := hb1.mono hB
      refine ⟨rfl, hD.more (fun k e => .inl e), hbw.trans hbr, fun k e => ?_⟩
      refine (hsr k (.inl e)).trans (hb1.block k ?_)
      obtain ⟨A1, _, _, _, _, _, hkk⟩ := h
      rw [← hge'.out]
      exact (hkk k e).1
set_option maxHeartbeats 2000000 in
theorem push_back {K : Nat → Prop} {B g : Nat} {l : List ByteArray} (A : Option Addr) (m c : Nat) (ts : List ByteArray) (w : World) (h : DQK K B w g l) (hB : B ≤ w.heap.size) (hr : Reads w w.heap.size 1 A m (svs ts)) (hA : 0 < m → ∀ b o, A = some ⟨b, o, none⟩ → b < B ∨ K b)
    (h6 : l.length + m ≤ 65536) (hs : ∀ s ∈ ts, s.size ≤ 1048576) :
    Calls Try.prog 34 #[.pointer (some ⟨g, 0, none⟩), .int .i64 1, .slice A m c] w fun e w' => e = .returned (.int .i64 0) ∧ DQK K B w' g (pushed true l ts) ∧ Below B w w' ∧ SameK K w w' := by
  have hlt := hide hr.slen
  have hh := h
  obtain ⟨A0, len, cap, first, ring, hx, _⟩ := hh
  have hBk := hx.1
  have c2 := hBk.cell 2
  rw [show (dcells A0 len cap first l.length)[2]? = some (.int .i64 l.length) from rfl] at c2
  go_enter Try.func34, Try.ntmps34
  go_wp2_with (first
    | (go_at_call 35; refine (none_any g _ _ _ w hBk).mono ?_; rintro e w1 ⟨rfl, rfl⟩)
    | (go_at_call 31; refine (fits_any l.length A m c ts w hr h6 hs).mono ?_; rintro e w1 ⟨rfl, rfl⟩)
    | fail)
  have hk1 := Blk.new w 71 #[.func (.func 41) #[] #[], .func (.func 42) #[] #[]]
  have hb1 : Below w.heap.size w (w.alloc (.cells #[.func (.func 41) #[] #[], .func (.func 42) #[] #[]] 71)) := (Below.refl _ w).alloc (Nat.le_refl _) _
  have hD1 := h.add hb1 (Nat.le_refl _) (by simp)
  have hr1 := (hr.below hb1).more hb1.size
  have hs1 : w.heap.size < (w.alloc (.cells #[.func (.func 41) #[] #[], .func (.func 42) #[] #[]] 71)).heap.size := by simp
  generalize w.alloc (.cells #[.func (.func 41) #[] #[], .func (.func 42) #[] #[]] 71) = W1 at *
  generalize hge : w.heap.size = ge at *
  have hge' := hide hge
  clear hge c2 hBk hx
  go_loopw [9, 22] (fun _ i wr => ∃ t : Nat, t ≤ m ∧ i = .int .i64 t ∧ DQK (fun k => K k ∨ k = ge) B wr g (pushed true l (ts.take t)) ∧ Below B W1 wr ∧ SameK (fun k => K k ∨ k = ge) W1 wr)
    (fun _ i _ => m - (intOf i).toNat)
  case atStart => exact ⟨0, by omega, rfl, by rw [List.take_zero, pushed_nil]; exact hD1, Below.refl _ _, fun k _ => rfl⟩
  case round =>
    obtain ⟨t, ht, rfl, hD, hbr, hsr⟩ := hrel
    have hlen : (pushed true l (ts.take t)).length = l.length + t := by rw [pushed_length, List.length_take, hlt.out]; omega
    by_cases htm : t < m
    · have htI : (t : Int) < (m : Int) := by omega
      obtain ⟨b, o, s, rfl, hb, hts, hc⟩ := hr1.text htm
      have hheap : wr.heap[b]? = W1.heap[b]? := by
        rcases hA (by omega) b o rfl with hbB | hbK
        · exact hbr.block b hbB
        · exact hsr b (.inl hbK)
      have hc' : wr.cell? ⟨b, o + t, none⟩ = some (.string s) := (World.cell?_of_block (a := ⟨b, o + t, none⟩) hheap).trans hc
      have hke : Blk wr ge 71 #[.func (.func 41) #[] #[], .func (.func 42) #[] #[]] := (hsr ge (.inr rfl)).trans hk1
      have e0 := hke.cell 1
      rw [show (#[Value.func (.func 41) #[] #[], .func (.func 42) #[] #[]] : Array Value)[1]? = some (.func (.func 42) #[] #[]) from rfl] at e0
      have hw2 : IntKind.i64.wrap ((t : Int) + 1) = (t : Int) + 1 := IntWalk.i64_in _ (by omega)
      have hD' := hD
      have hBw : B ≤ wr.heap.size := Nat.le_trans (Nat.le_trans hB (Nat.le_of_lt hs1)) hbr.size
      go_wp2_with (first
        | (go_at_call 42
           go_must (
           refine (back_any s wr hD hBw (by omega)).mono ?_
           rintro e w2 ⟨⟨v, rfl⟩, hD2, hb2, hs2⟩))
        | fail)
      go_roundw
      case rel =>
        refine ⟨t + 1, by omega, by simp, ?_, hbr.trans hb2, fun k e => (hs2 k e).trans (hsr k e)⟩
        rw [take_snoc0 hts, pushed_snoc]
        exact hD2
      case measure => simp [intOf]; omega
    · have htI : ¬ (t : Int) < (m : Int) := by omega
      obtain rfl : t = m := by omega
      rw [List.take_of_length_le (by rw [hlt.out]; omega)] at hD
      go_wp2_with fail
      go_ret
      have hbw : Below B w W1 := hb1.mono hB
      refine ⟨rfl, hD.more (fun k e => .inl e), hbw.trans hbr, fun k e => ?_⟩
      refine (hsr k (.inl e)).trans (hb1.block k ?_)
      obtain ⟨A1, _, _, _, _, _, hkk⟩ := h
      rw [← hge'.out]
      exact (hkk k e).1

theorem pushFront_any {K : Nat → Prop} {B g : Nat} {l : List ByteArray} (A : Option Addr) (m c : Nat) (ts : List ByteArray) (w : World) (h : DQK K B w g l) (hB : B ≤ w.heap.size) (hr : Reads w w.heap.size 1 A m (svs ts)) (hA : 0 < m → ∀ b o, A = some ⟨b, o, none⟩ → b < B ∨ K b)
    (h6 : l.length + m ≤ 65536) (hs : ∀ s ∈ ts, s.size ≤ 1048576) :
    Calls Try.prog 20 #[.pointer (some ⟨g, 0, none⟩), .slice A m c] w fun e w' => e = .returned (.int .i64 0) ∧ DQK K B w' g (ts.reverse ++ l) ∧ Below B w w' ∧ SameK K w w' := by
  go_enter Try.func20, Try.ntmps20
  go_wp2_with (first
    | (go_at_call 34; refine (push_front A m c ts w h hB hr hA h6 hs).mono ?_; rintro e w1 ⟨rfl, hD, hb, hs⟩)
    | fail)
  go_ret
  exact ⟨rfl, hD, hb, hs⟩
end Go.Proofs.Ytlglelgnpkdnbaa
