/- What a deque is in memory; the walks of slices.Clone, New and Range. Conditions: those of each theorem. -/
import Derived.Test.YtlglelgnpkdnbaaDqC
import Derived.Test.YtlglelgnpkdnbaaGrow
import Derived.Deep.RegionHeld3
import Derived.Deep.DrawnRows
namespace Go.Proofs.Ytlglelgnpkdnbaa
open Go.RowKit
set_option linter.unusedVariables false
attribute [local go_sem ↓] Go.wp_at_zero Go.wp_at_succ

theorem own_below {w w' : World} {base : Nat} {e : TypeId} {size : Nat} {v : Value} {n : Nat} {xs : List Value} (h : w.ownsRow base e size v n xs) (hb : Below w.heap.size w w') : w'.ownsRow base e size v n xs := by
  obtain ⟨h1, h2⟩ := h
  refine ⟨h1, ?_⟩
  rcases h2 with h2 | ⟨g, cap, cur, a, b, c, d⟩
  · exact .inl h2
  · exact .inr ⟨g, cap, cur, a, b, (hb.block g (Array.getElem?_eq_some_iff.1 c).1).trans c, d⟩
theorem int_eqD {a b : Int} (h : a = b) : Value.int .i64 a = Value.int .i64 b := by rw [h]
theorem undrewQ {B : Nat} {w w' : World} (h : Below B w.drew w') : Below B w w' := ⟨h.os, h.tape, h.output, h.size, h.block⟩
/-- an owned row is a slice -/
theorem own_slice {w : World} {base : Nat} {e : TypeId} {v : Value} {n : Nat} {xs : List Value} (h : w.ownsRow base e 1 v n xs) : ∃ A cap, v = .slice A n cap ∧ n ≤ cap ∧ cap ≤ maxLen := by
  rcases h.2 with ⟨rfl, rfl⟩ | ⟨g, cap, cur, hv, hb, hg, h1, h2, _⟩
  · exact ⟨none, 0, rfl, Nat.le_refl _, by decide⟩
  · exact ⟨_, cap, hv, h1, h2⟩

/-- a deque of the texts l -/
def DQx (B : Nat) (w : World) (g : Nat) (A : Option Addr) (len cap first n : Nat) (ring l : List ByteArray) : Prop :=
  Blk w g 57 (dcells A len cap first n) ∧ B ≤ g ∧ w.ownsRow B 9 1 (.slice A len cap) len (svs ring) ∧ l.length = n ∧ n ≤ len ∧ len ≤ 200000 ∧ first ≤ 200000 ∧ (first < len ∨ len = 0) ∧ ∀ i, i < n → ring[(first + i) % len]? = l[i]?
def DQ (B : Nat) (w : World) (g : Nat) (l : List ByteArray) : Prop := ∃ A len cap first ring, DQx B w g A len cap first l.length ring l
theorem DQx.below {B : Nat} {w w' : World} {g : Nat} {A : Option Addr} {len cap first n : Nat} {ring l : List ByteArray} (h : DQx B w g A len cap first n ring l) (hb : Below w.heap.size w w') : DQx B w' g A len cap first n ring l :=
  ⟨h.1.below hb h.1.lt, h.2.1, own_below h.2.2.1 hb, h.2.2.2⟩
theorem DQ.below {B : Nat} {w w' : World} {g : Nat} {l : List ByteArray} (h : DQ B w g l) (hb : Below w.heap.size w w') : DQ B w' g l := by
  obtain ⟨A, len, cap, first, ring, h⟩ := h
  exact ⟨A, len, cap, first, ring, h.below hb⟩
theorem DQ.drewN {B : Nat} {w : World} {g : Nat} {l : List ByteArray} (h : DQ B w g l) (m : Nat) : DQ B (w.drewN m) g l := h.below (below_drewN (Below.refl _ _) m)

theorem run_equalIn_sl_nil {P : Program} (w : World) (d : Nat) (t e : TypeId) (a : Option Addr) (n c : Nat) (h : P.underlying t = some (.slice e)) : (Op.equalIn (d + 1) t (.slice a n c) (.slice none 0 0)).run P w = .ok a.isNone w := by
  cases a <;> simp [Op.equalIn, run_underlying h]
theorem run_eql_sl_nil {P : Program} (w : World) (t e : TypeId) (a : Option Addr) (n c : Nat) (h : P.underlying t = some (.slice e)) : (binOp .eql t (.slice a n c) (.slice none 0 0)).run P w = .ok (.bool a.isNone) w := by
  simp only [binOp]
  simp [Op.equal, Op.maxDepth, run_equalIn_sl_nil w 9999 t e a n c h]

theorem clone_any (A : Option Addr) (n c : Nat) (l : List ByteArray) (w : World) (hr : Reads w w.heap.size 1 A n (svs l)) (hn : n ≤ 100000) :
    Calls Try.prog 32 #[.slice A n c] w fun e w' => ∃ v, e = .returned v ∧ w'.ownsRow w.heap.size 9 1 v n (svs l) ∧ Below w.heap.size w w' := by
  have hl := hide hr.slen
  rcases A with _ | ad
  · have h0 : n = 0 := by
      rcases Nat.eq_zero_or_pos n with h | h
      · exact h
      · obtain ⟨b, o, e, _⟩ := hr.2 h; cases e
    subst h0
    have hnil : l = [] := List.eq_nil_of_length_eq_zero hl.out
    subst hnil
    have heq : ∀ w, (binOp .eql 29 (.slice none 0 c) (.slice none 0 0)).run Try.prog w = .ok (.bool true) w := fun w => run_eql_sl_nil w _ _ none 0 c Try.underlying29
    go_enter Try.func32, Try.ntmps32
    go_wp2_with fail
    go_ret
    exact ⟨_, rfl, World.ownsRow_nil _ _ _ _, Below.refl _ _⟩
  · have heq : ∀ w, (binOp .eql 29 (.slice (some ad) n c) (.slice none 0 0)).run Try.prog w = .ok (.bool false) w := fun w => run_eql_sl_nil w _ _ (some ad) n c Try.underlying29
    have hown0 : (w.alloc (.cells #[] 9)).ownsRow w.heap.size 9 1 (.slice (some ⟨w.heap.size, 0, none⟩) 0 0) 0 [] := World.ownsRow_made w #[] 0 (Nat.le_refl _) (by decide) rfl
    have hr0 : Reads (w.alloc (.cells #[] 9)) w.heap.size 1 (some ad) n (svs l) := hr.alloc (Nat.le_refl _) _
    go_enter Try.func32, Try.ntmps32
    go_wp2_with (first
      | (at_builtin
         refine wpList_append rfl (.tmp 5) (.tmp 6) 29 rfl str_ok Try.underlying29 hown0 rfl hr0 rfl (svs_one l) (by unfold maxLen; omega) (by omega) (by simp) ?_
         intro v1 w1 hown1 hb1 _ _
         rw [Nat.zero_add, List.nil_append] at hown1)
      | fail)
    go_ret
    exact ⟨_, rfl, hown1, ((Below.refl _ w).alloc (Nat.le_refl _) _).trans hb1⟩

theorem new_any (A : Option Addr) (n c : Nat) (l : List ByteArray) (w : World) (hr : Reads w w.heap.size 1 A n (svs l)) (hn : n ≤ 65536) (hs : ∀ s ∈ l, s.size ≤ 1048576) :
    Calls Try.prog 15 #[.slice A n c] w fun e w' => ∃ g, e = .returned (.tuple #[.pointer (some ⟨g, 0, none⟩), .int .i64 0]) ∧ DQ w.heap.size w' g l ∧ Below w.heap.size w w' := by
  have hl := hide hr.slen
  go_enter Try.func15, Try.ntmps15
  go_wp2_with (first
    | (go_at_call 31; refine (fits_any 0 A n c l w hr (by omega) hs).mono ?_; rintro e w1 ⟨rfl, rfl⟩)
    | (go_at_call 32; refine (clone_any A n c l w hr (by omega)).mono ?_; rintro e w1 ⟨v, rfl, hown, hb⟩; obtain ⟨A', cap, rfl, hcap, hcm⟩ := own_slice hown)
    | fail)
  go_ret2
  refine ⟨w1.heap.size, rfl, ⟨A', n, cap, 0, l, ?_⟩, hb.alloc hb.size _⟩
  rw [hl.out]
  refine ⟨Blk.new w1 _ _, hb.size, hown.alloc _, hl.out, Nat.le_refl _, by omega, by omega, by omega, fun i hi => ?_⟩
  rw [Nat.zero_add, Nat.mod_eq_of_lt hi]

/-- the texts of a span -/
def spA (n : Nat) (f u : Int) : Nat := (spanA n f u).toNat
def spB (n : Nat) (f u : Int) : Nat := (spanB n f u).toNat
theorem sp_facts (n : Nat) (f u : Int) : spanA n f u = (spA n f u : Int) ∧ spanB n f u = (spB n f u : Int) ∧ spA n f u ≤ spB n f u ∧ spB n f u ≤ n := by
  have h : 0 ≤ spanA n f u ∧ spanA n f u ≤ spanB n f u ∧ spanB n f u ≤ n := by
    unfold spanA spanB spanHi spanLo
    (repeat' split) <;> omega
  unfold spA spB
  omega
def rangeOf (l : List ByteArray) (f u : Int) : List ByteArray := (l.drop (spA l.length f u)).take (spB l.length f u - spA l.length f u)
theorem rangeOf_length (l : List ByteArray) (f u : Int) : (rangeOf l f u).length = spB l.length f u - spA l.length f u := by
  have := sp_facts l.length f u
  simp [rangeOf]
  omega
theorem take_snoc {l : List ByteArray} {a t : Nat} {s : ByteArray} (hs : l[a + t]? = some s) : (l.drop a).take (t + 1) = (l.drop a).take t ++ [s] := by
  rw [List.take_add_one, List.getElem?_drop, hs]
  rfl

set_option maxHeartbeats 2000000 in
theorem range_any {B g : Nat} {l : List ByteArray} (w : World) (h : DQ B w g l) (f u : Int) (hf : I64 f) (hu : I64 u) :
    Calls Try.prog 23 #[.pointer (some ⟨g, 0, none⟩), .int .i64 f, .int .i64 u] w fun e w' => ∃ v, e = .returned v ∧ w'.ownsRow w.heap.size 9 1 v (rangeOf l f u).length (svs (rangeOf l f u)) ∧ Below w.heap.size w w' := by
  obtain ⟨A, len, cap, first, ring, h⟩ := h
  obtain ⟨hB, hg, hown, hl, hn, hlen, hfirst, hfl, hring⟩ := id h
  have hrl := hide (rangeOf_length l f u)
  have HR : Hid (rangeOf l f u = (l.drop (spA l.length f u)).take (spB l.length f u - spA l.length f u)) := rfl
  clear hl
  generalize hl : l.length = n at *
  obtain ⟨ea, eb, hab, hbn⟩ := sp_facts n f u
  have HL := hide hl
  clear hl
  have HEA := hide ea
  have HEB := hide eb
  clear ea eb
  generalize spA n f u = a at *
  generalize spB n f u = b at *
  go_enter Try.func23, Try.ntmps23
  go_wp2_with (first
    | (go_at_call 21; refine (len_any g _ _ n w hB).mono ?_; rintro e w1 ⟨rfl, rfl⟩)
    | (go_at_call 10; refine (span_any n f u ⟨by omega, by omega⟩ hf hu w).mono ?_; rintro e w1 ⟨rfl, rfl⟩; rw [HEA.out, HEB.out])
    | fail)
  go_loopw [9, 10] (fun v i wr => ∃ t : Nat, a + t ≤ b ∧ i = .int .i64 ((a + t : Nat) : Int) ∧ wr.ownsRow w.heap.size 9 1 v t (svs ((l.drop a).take t)) ∧ Below w.heap.size w wr)
    (fun _ i _ => b - (intOf i).toNat)
  case atStart => exact ⟨0, by omega, rfl, by simpa [svs] using World.ownsRow_nil _ _ _ _, Below.refl _ _⟩
  case round =>
    obtain ⟨t, ht, rfl, how, hbw⟩ := hrel
    generalize hat : a + t = p at *
    have HAT := hide hat
    clear hat
    by_cases hpb : p < b
    · have hpI : (p : Int) < (b : Int) := by omega
      have hr := hide (hring p (by omega))
      have hlpos : 0 < len := by omega
      have hx := h.below hbw
      obtain ⟨hBw, _, hownw, _⟩ := id hx
      have hrd := Reads.of_own hownw
      have hrl2 := hrd.slen
      have hpos : (first + p) % len < len := Nat.mod_lt _ hlpos
      obtain ⟨gr, o, s, rfl, hgr, hs, hcs⟩ := hrd.text hpos
      have hls : l[p]? = some s := by rw [← hr.out]; exact hs
      have c0 := hBw.cell 0
      rw [show (dcells (some ⟨gr, o, none⟩) len cap first n)[0]? = some (.slice (some ⟨gr, o, none⟩) len cap) from rfl] at c0
      have en0 := World.new_ne wr _ c0
      have en1 := World.new_ne wr _ hcs
      have hgl := hB.lt
      have hgrl : gr < w.heap.size := by
        have := (hown.lt gr (by simp [Value.ownBlock])).2
        exact this
      have hne0 : u9.ownBlock ≠ some g := fun e => by have := (how.lt g e).1; omega
      have hne1 : u9.ownBlock ≠ some gr := fun e => by have := (how.lt gr e).1; omega
      generalize hq : (first + p) % len = q at *
      have hqI : (q : Int) < (len : Int) := by omega
      have HQ := hide hq
      clear hq
      have hwB : w.heap.size ≤ wr.heap.size := hbw.size
      have ht2 : t ≤ 200000 := by have := HAT.out; omega
      go_wp2_with fail
      go_region_held3 (fun w' => w'.cell? ⟨g, 0, none⟩ = some (.slice (some ⟨gr, o, none⟩) len cap) ∧ w'.cell? ⟨gr, o + q, none⟩ = some (.string s))
        (first
          | go_keep
          | (go_split_ands
             refine ⟨?_, ?_⟩
             · (rw [hgrow.cell_far _ (by simp; omega) (Ne.symm hne0)]; assumption)
             · (rw [hgrow.cell_far _ (by simp; omega) (Ne.symm hne1)]; assumption)))
        (first
          | (go_at_call 33
             go_must (
             refine (at_any g _ len cap first n p wr.drew hBw hlpos hlen hfirst (by omega)).mono ?_
             rintro e w2 ⟨rfl, m2, hw2⟩
             rw [HQ.out]
             have how2 : w2.ownsRow w.heap.size 9 1 u9 t (svs ((l.drop a).take t)) := by rw [hw2]; exact how
             have hbw2 : Below w.heap.size w w2 := by rw [hw2]; exact ⟨hbw.os, hbw.tape, hbw.output, hbw.size, hbw.block⟩
             have d0 : w2.cell? ⟨g, 0, none⟩ = some (.slice (some ⟨gr, o, none⟩) len cap) := by rw [hw2]; exact c0
             have d1 : w2.cell? ⟨gr, o + q, none⟩ = some (.string s) := by rw [hw2]; exact hcs
             clear hw2
             have en2 := World.new_ne w2 _ d0
             have en3 := World.new_ne w2 _ d1
             have hwB2 : w.heap.size ≤ w2.heap.size := hbw2.size))
          | ((refine step_append (by rfl) _ _ _ (by rfl) str_ok Try.underlying29 (v := u9) (n := t) (xs := svs ((l.drop a).take t)) (how2.alloc _) (by rfl) (Reads.one_new w2 (.string s) 9) (by rfl) (svs_one [s]) (by unfold maxLen; omega) (by omega) (by simp; omega) ?_
              intro v1 w1 hown1 hb1 hgrow)))
      go_wp2_with fail
      go_roundw
      case rel =>
        refine ⟨t + 1, by have := HAT.out; omega, ?_, ?_, (hbw2.alloc hwB2 _).trans hb1⟩
        · have := HAT.out
          exact int_eqD (by omega)
        · rw [take_snoc (by rw [HAT.out]; exact hls), svs_append]
          exact hown1
      case measure => simp [intOf]; omega
    · have hpI : ¬ (p : Int) < (b : Int) := by omega
      go_wp2_with fail
      go_ret
      have := HAT.out
      obtain rfl : t = b - a := by omega
      refine ⟨_, rfl, ?_, hbw⟩
      rw [hrl.out, HR.out]
      exact how
end Go.Proofs.Ytlglelgnpkdnbaa
