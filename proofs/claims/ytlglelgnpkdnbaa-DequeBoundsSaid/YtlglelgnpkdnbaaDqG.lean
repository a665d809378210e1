/- The walks of front, back, push, PushFront, PushBack (package deque). Conditions: those of each theorem. -/
import Derived.Test.YtlglelgnpkdnbaaDqF
import Derived.StillTailTactics
namespace Go.Proofs.Ytlglelgnpkdnbaa
open Go.RowKit
set_option linter.unusedVariables false

/-- a block that is kept beside a deque -/
def Kept (K : Nat → Prop) (w : World) (g : Nat) (A : Option Addr) : Prop := ∀ k, K k → k < w.heap.size ∧ k ≠ g ∧ A.map (·.block) ≠ some k
def DQK (K : Nat → Prop) (B : Nat) (w : World) (g : Nat) (l : List ByteArray) : Prop := ∃ A len cap first ring, DQx B w g A len cap first l.length ring l ∧ Kept K w g A
def SameK (K : Nat → Prop) (w w' : World) : Prop := ∀ k, K k → w'.heap[k]? = w.heap[k]?
theorem DQ.k {B : Nat} {w : World} {g : Nat} {l : List ByteArray} (h : DQ B w g l) : DQK (fun _ => False) B w g l := by
  obtain ⟨A, len, cap, first, ring, h⟩ := h
  exact ⟨A, len, cap, first, ring, h, fun k e => e.elim⟩
theorem DQK.q {K : Nat → Prop} {B : Nat} {w : World} {g : Nat} {l : List ByteArray} (h : DQK K B w g l) : DQ B w g l := by
  obtain ⟨A, len, cap, first, ring, h, _⟩ := h
  exact ⟨A, len, cap, first, ring, h⟩
theorem room_any {K : Nat → Prop} {B g : Nat} {l : List ByteArray} (w : World) (h : DQK K B w g l) (hB : B ≤ w.heap.size) (h6 : l.length ≤ 65536) :
    Calls Try.prog 46 #[.pointer (some ⟨g, 0, none⟩)] w fun e w' => (∃ v, e = .returned v) ∧ (∃ A len cap first ring, DQx B w' g A len cap first l.length ring l ∧ l.length < len ∧ Kept K w' g A) ∧ Below B w w' ∧ SameK K w w' := by
  obtain ⟨A, len, cap, first, ring, h, hk⟩ := h
  by_cases hn : l.length < len
  · refine (room_any_free A len cap first l.length w h.1 hn).mono ?_
    rintro e w' ⟨hv, m, rfl⟩
    exact ⟨hv, ⟨A, len, cap, first, ring, h.below (below_drewN (Below.refl _ _) _), hn, hk⟩, below_drewN (Below.refl _ _) _, fun k _ => rfl⟩
  · have hnl : l.length = len := by have := h.2.2.2.2.1; omega
    by_cases h2 : 2 < l.length
    · refine (room_big A len cap first l.length ring l w h hB hnl h6 h2).mono ?_
      rintro e w' ⟨hv, ⟨gM, ring', hx, hgM⟩, hb, hs⟩
      exact ⟨hv, ⟨_, _, _, _, ring', hx, by omega, fun k e => ⟨by have := (hk k e).1; have := hb.size; omega, (hk k e).2.1, by simp; have := (hk k e).1; omega⟩⟩, hb, fun k e => hs k (hk k e).1 (hk k e).2.1⟩
    · refine (room_small A len cap first l.length ring l w h hB hnl h6 (by omega)).mono ?_
      rintro e w' ⟨hv, ⟨gM, ring', hx, hgM⟩, hb, hs⟩
      exact ⟨hv, ⟨_, _, _, _, ring', hx, by omega, fun k e => ⟨by have := (hk k e).1; have := hb.size; omega, (hk k e).2.1, by simp; have := (hk k e).1; omega⟩⟩, hb, fun k e => hs k (hk k e).1 (hk k e).2.1⟩

/-! an owned row, one cell of which is written -/
theorem own_set {w : World} {B : Nat} {e : TypeId} {gr n cap j : Nat} {xs : List Value} (h : w.ownsRow B e 1 (.slice (some ⟨gr, 0, none⟩) n cap) n xs) (hj : j < n) (u : Value) :
    (w.setCell ⟨gr, j, none⟩ u).ownsRow B e 1 (.slice (some ⟨gr, 0, none⟩) n cap) n (xs.set j u) := by
  obtain ⟨h1, h2⟩ := h
  refine ⟨by simpa using h1, ?_⟩
  rcases h2 with ⟨h2, _⟩ | ⟨g, cap', cur, hv, hb, hg, hc1, hc2, hc3, hc4⟩
  · cases h2
  · injection hv with hv1 hv2 hv3
    injection hv1 with hv1
    injection hv1 with hv1
    subst hv1 hv3
    have hk : Blk w gr e cur := hg
    refine .inr ⟨gr, cap, _, rfl, hb, hk.set_ j u, hc1, hc2, by simpa using hc3, ?_⟩
    rw [Array.toList_setIfInBounds, List.take_set, hc4]
theorem own_far {w : World} {B : Nat} {e : TypeId} {v : Value} {n : Nat} {xs : List Value} (h : w.ownsRow B e 1 v n xs) {p : Addr} (hp : v.ownBlock ≠ some p.block) (u : Value) : (w.setCell p u).ownsRow B e 1 v n xs := by
  obtain ⟨h1, h2⟩ := h
  refine ⟨h1, ?_⟩
  rcases h2 with h2 | ⟨g, cap, cur, rfl, hb, hg, hc⟩
  · exact .inl h2
  · have hk : Blk w g e cur := hg
    exact .inr ⟨g, cap, cur, rfl, hb, hk.far (p := p) (fun e => hp (by simp [Value.ownBlock, e])) u, hc⟩
theorem own_frozen {w : World} {B : Nat} {e : TypeId} {gr n cap : Nat} {xs : List Value} (h : w.ownsRow B e 1 (.slice (some ⟨gr, 0, none⟩) n cap) n xs) (j : Nat) : w.frozen? ⟨gr, j, none⟩ = false := by
  rcases h.2 with ⟨h2, _⟩ | ⟨g, cap', cur, hv, hb, hg, _⟩
  · cases h2
  · injection hv with hv1 hv2 hv3
    injection hv1 with hv1
    injection hv1 with hv1
    subst hv1
    have hk : Blk w gr e cur := hg
    exact hk.frozen j
/-- the ring's block is not the deque's -/
theorem DQx.apart {B : Nat} {w : World} {g gr : Nat} {len cap first n : Nat} {ring l : List ByteArray} (h : DQx B w g (some ⟨gr, 0, none⟩) len cap first n ring l) : gr ≠ g := by
  rcases h.2.2.1.2 with ⟨h2, _⟩ | ⟨g', cap', cur, hv, hb, hg, _⟩
  · cases h2
  · injection hv with hv1 hv2 hv3
    injection hv1 with hv1
    injection hv1 with hv1
    subst hv1
    have hk : Blk w gr 9 cur := hg
    exact fun e => (h.1.ne_ hk (by decide)) e.symm
theorem mod_two {x m : Nat} (h : x < 2 * m) : x % m = if x < m then x else x - m := by
  split
  · exact Nat.mod_eq_of_lt (by assumption)
  · rw [Nat.mod_eq_sub_mod (by omega), Nat.mod_eq_of_lt (by omega)]
theorem svs_set (l : List ByteArray) (j : Nat) (s : ByteArray) : (svs l).set j (.string s) = svs (l.set j s) := by simp [svs, List.map_set]

/-- behind front: the ring, by its indices -/
theorem front_ring {len first n : Nat} {ring l : List ByteArray} {s : ByteArray} (hl : l.length = n) (hr : ring.length = len) (hn : n < len) (hf : first < len) (h : ∀ i, i < n → ring[(first + i) % len]? = l[i]?) :
    ∀ i, i < n + 1 → (ring.set ((first + len - 1) % len) s)[((first + len - 1) % len + i) % len]? = (s :: l)[i]? := by
  intro i hi
  have e0 : (first + len - 1) % len = if first = 0 then len - 1 else first - 1 := by rw [mod_two (by omega)]; split <;> split <;> omega
  have hlt : (first + len - 1) % len < len := Nat.mod_lt _ (by omega)
  cases i with
  | zero =>
    rw [Nat.add_zero, Nat.mod_eq_of_lt hlt, List.getElem?_set_self (by omega)]
    rfl
  | succ i =>
    have e1 : ((first + len - 1) % len + (i + 1)) % len = (first + i) % len := by
      rw [mod_two (by omega), mod_two (x := first + i) (by omega), e0]
      split <;> split <;> split <;> omega
    have hne : (first + len - 1) % len ≠ (first + i) % len := by
      rw [mod_two (x := first + i) (by omega), e0]
      split <;> split <;> omega
    rw [e1, List.getElem?_set_ne hne, h i (by omega)]
    rfl
/-- behind back -/
theorem back_ring {len first n : Nat} {ring l : List ByteArray} {s : ByteArray} (hl : l.length = n) (hr : ring.length = len) (hn : n < len) (hf : first < len) (h : ∀ i, i < n → ring[(first + i) % len]? = l[i]?) :
    ∀ i, i < n + 1 → (ring.set ((first + n) % len) s)[(first + i) % len]? = (l ++ [s])[i]? := by
  intro i hi
  have hlt : (first + n) % len < len := Nat.mod_lt _ (by omega)
  by_cases hin : i = n
  · subst hin
    rw [List.getElem?_set_self (by omega), ← hl, List.getElem?_concat_length]
  · have hne : (first + n) % len ≠ (first + i) % len := by
      rw [mod_two (x := first + i) (by omega), mod_two (by omega)]
      split <;> split <;> omega
    rw [List.getElem?_set_ne hne, h i (by omega), List.getElem?_append_left (by omega)]
end Go.Proofs.Ytlglelgnpkdnbaa
