/- Writing into rows of lists that a call made keeps each block's size and type; the state of the loops of FramesScan. Conditions: those of each theorem. -/
import Derived.Test.YtbpodmgogokpiaaFrL
import Derived.Test.YtbpodmgogokpiaaFrT
import Derived.Test.YtbpodmgogokpiaaGrow
namespace Go.Proofs.Ytbpodmgogokpiaa
open Go.RowKit
set_option linter.unusedVariables false

def Shape (w w' : World) : Prop := ∀ k t cs, Blk w k t cs → ∃ cs', Blk w' k t cs' ∧ cs'.size = cs.size
theorem Shape.refl (w : World) : Shape w w := fun k t cs h => ⟨cs, h, rfl⟩
theorem Shape.trans {a b c : World} (h : Shape a b) (k : Shape b c) : Shape a c := fun q t cs hq => by
  obtain ⟨cs', h1, e1⟩ := h q t cs hq
  obtain ⟨cs'', h2, e2⟩ := k q t cs' h1
  exact ⟨cs'', h2, e2.trans e1⟩
theorem Shape.setCell (w : World) (g i : Nat) (u : Value) : Shape w (w.setCell ⟨g, i, none⟩ u) := fun k t cs h => by
  by_cases e : k = g
  · subst e; exact ⟨_, h.set_ i u, by simp⟩
  · exact ⟨cs, h.far (p := ⟨g, i, none⟩) e u, rfl⟩
theorem Shape.alloc (w : World) (o : Obj) : Shape w (w.alloc o) := fun k t cs h => ⟨cs, h.alloc o, rfl⟩

theorem run_append_shape {P : Program} {w : World} (t ty e : TypeId) (bytes : Nat) (z : Value) (hE : ElemOk P e 1 bytes z) (ht : P.underlying t = some (.slice e))
    {base n : Nat} {v : Value} {xs : List Value} (hown : w.ownsRow base e 1 v n xs) {B : Nat} {A : Option Addr} {m c : Nat} {news : List Value} (hr : Reads w B 1 A m news) (hm : 0 < m) (h1 : ∀ u ∈ news, u.oneCell' = true)
    (h63 : n + m ≤ maxLen) (hbytes : (n + m) * bytes ≤ 140737488355328) (hbase : base ≤ w.heap.size) :
    ∃ v' w', (Builtin.append_ #[t, t] ty #[v, .slice A m c]).run P w = .ok v' w' ∧ w'.ownsRow base e 1 v' (n + m) (xs ++ news) ∧ Below base w w' ∧ w.grownBy w' v.ownBlock ∧ Shape w w' := by
  obtain ⟨v', w', hrun, h2, h3, h4⟩ := run_append_any (P := P) t ty e 1 bytes z hE ht hown (c := c) hr h1 h63 hbytes hbase
  refine ⟨v', w', hrun, h2, below_grown hown h3 hbase, h3, fun k tk cs hk => ?_⟩
  by_cases hkv : v.ownBlock = some k
  case neg => exact ⟨cs, hk.grown h3 (fun e => hkv e.symm), rfl⟩
  case pos =>
    rcases hown.2 with ⟨h, _⟩ | ⟨g, cap, cur, rfl, hbg, hgg, hnc, hcm, hcs, htake⟩
    · subst h; cases hkv
    · have hkg : g = k := by simpa [Value.ownBlock] using hkv
      subst hkg
      have hg : Blk w g e cur := hgg
      obtain ⟨rfl, rfl⟩ : tk = e ∧ cs = cur := by
        unfold Blk at hk hg
        rw [hk] at hg
        injection hg with hg
        injection hg with a1 a2
        exact ⟨a2, a1⟩
      obtain ⟨j, hj, hz, hsize, hby, hzs, hsz⟩ := hE
      obtain ⟨b, o, rfl, hb, hc⟩ := hr.2 hm
      have hnews : ∀ q v, news[q]? = some v → w.cell? ((⟨b, o, none⟩ : Addr).add q) = some v := fun q v hq => by rw [add_lit]; exact hc q v hq
      have hnl : news.length = m := by have := hr.1; omega
      by_cases hroom : n + m ≤ cap
      · have hrr := run_append_room (P := P) w t ty tk j ht hj g n cap cs hgg ⟨b, o, none⟩ m c news (by rw [hr.1, hsize]) hnews h1 hroom (by rw [hr.1, hsize, hcs]; omega)
        rw [hrr] at hrun
        injection hrun with e1 e2
        rw [← e2]
        refine ⟨_, setRow_heap w g cs _ tk _ hgg, ?_⟩
        simp only [List.size_toArray, List.length_append, List.length_take, List.length_drop, Array.length_toList, hsize]
        omega
      · have hgr := run_append_grow (P := P) w t ty tk j z ht hj hz ⟨g, 0, none⟩ n cap xs (by rw [hown.1, hsize]) (hown.cells (g := g) rfl) ⟨b, o, none⟩ m c news (by rw [hr.1, hsize]) hnews (by omega) (by unfold maxLen at h63; omega) (by rw [hby]; exact growslice_fits (by omega) hbytes)
        rw [hgr] at hrun
        injection hrun with e1 e2
        rw [← e2]
        exact ⟨cs, hg.drew.alloc _, rfl⟩
theorem wpList_append_shape {P : Program} {ops : Array Oper} {rest : List Oper} {o : Oper} {a : Act} {Q : Exit → Act → World → Prop} {w : World} (hgd : o.guard = none) (s x : Operand) (t : TypeId)
    (ho : o.op = .call { callee := .builtin .append, args := #[s, x], argTypes := #[t, t] })
    {e : TypeId} {bytes : Nat} {z : Value} (hE : ElemOk P e 1 bytes z) (ht : P.underlying t = some (.slice e))
    {base : Nat} {v : Value} {n : Nat} {xs : List Value} (hown : w.ownsRow base e 1 v n xs) (hs : a.eval s = v) {B : Nat} {A : Option Addr} {m c : Nat} {news : List Value} (hr : Reads w B 1 A m news) (hm : 0 < m) (hx : a.eval x = .slice A m c) (h1 : ∀ u ∈ news, u.oneCell' = true)
    (h63 : n + m ≤ maxLen) (hbytes : (n + m) * bytes ≤ 140737488355328) (hbase : base ≤ w.heap.size)
    (h : ∀ v' w', w'.ownsRow base e 1 v' (n + m) (xs ++ news) → Below base w w' → w.grownBy w' v.ownBlock → Shape w w' → wpList P ops Q rest (a.put o.dst v') w') : wpList P ops Q (o :: rest) a w := by
  refine wpList_plain hgd fun K hK => ?_
  obtain ⟨v', w', hrun, r1, r2, r3, r4⟩ := run_append_shape (P := P) t o.type e bytes z hE ht hown (c := c) hr hm h1 h63 hbytes hbase
  unfold Oper.wp execOp
  simp only [ho, resolve, invoke, builtin, Sem.run_bind, Sem.run_pure, Result.andThen_ok, List.map_toArray, List.map_cons, List.map_nil, hs, hx, hrun]
  exact hK _ _ (h v' w' r1 r2 r3 r4)

/-- a part's room: its block has as many cells as the slice may have -/
def Room (w : World) (B N : Nat) (p : SPart) : Prop := p.n ≤ p.c ∧ p.c ≤ maxLen ∧ (p.A = none ∧ p.n = 0 ∧ p.c = 0 ∨ ∃ g cs, p.A = some ⟨g, 0, none⟩ ∧ B ≤ g ∧ g < N ∧ Blk w g 9 cs ∧ cs.size = p.c)
theorem Room.of_own {w : World} {B : Nat} {p : SPart} (h : RxS B p w) : Room w B w.heap.size p := by
  unfold RxS at h
  rcases h.2 with ⟨h1, h2⟩ | ⟨g, cap, cur, hv, hb, hg, h1, h2, h3, _⟩
  · injection h1 with e1 e2 e3
    exact ⟨by omega, by rw [e3]; decide, .inl ⟨e1, e2, e3⟩⟩
  · injection hv with e1 e2 e3
    have hk : Blk w g 9 cur := hg
    exact ⟨by omega, by omega, .inr ⟨g, cur, e1, hb, hk.lt, hk, by omega⟩⟩
theorem Room.shape {w w' : World} {B N : Nat} {p : SPart} (h : Room w B N p) (hs : Shape w w') : Room w' B N p := by
  obtain ⟨h1, h2, h3⟩ := h
  refine ⟨h1, h2, h3.imp id ?_⟩
  rintro ⟨g, cs, e, hb, hN, hk, hc⟩
  obtain ⟨cs', hk', e'⟩ := hs _ _ _ hk
  exact ⟨g, cs', e, hb, hN, hk', e'.trans hc⟩
/-- as an owned row, whatever lies in it -/
theorem Room.own {w : World} {B N : Nat} {p : SPart} (h : Room w B N p) : ∃ xs, w.ownsRow B 9 1 (.slice p.A p.n p.c) p.n xs := by
  obtain ⟨h1, h2, ⟨e1, e2, e3⟩ | ⟨g, cs, e, hb, hN, hk, hc⟩⟩ := h
  · rw [e1, e2, e3]; exact ⟨[], World.ownsRow_nil _ _ _ _⟩
  · refine ⟨cs.toList.take p.n, ?_, .inr ⟨g, p.c, cs, by rw [e], hb, hk, h1, h2, by omega, by rw [Nat.mul_one]⟩⟩
    rw [List.length_take, Array.length_toList]; omega

/-- the loops' state: place i of t; the world at their start w5; the lists' row in block gl; what lies from N1 to N3 stays -/
structure Wr (w w5 wr : World) (gl N1 i t : Nat) (ps : List SPart) : Prop where
  head : ∀ j p, i ≤ j → ps[j]? = some p → wr.cell? ⟨gl, j, none⟩ = some (.slice p.A p.n p.c)
  shape : Shape w5 wr
  kept : ∀ k, N1 ≤ k → k < w5.heap.size → wr.heap[k]? = w5.heap[k]?
  below : Below w.heap.size w wr
  size : w5.heap.size ≤ wr.heap.size

theorem Wr.store {w w5 wr : World} {gl N1 i t : Nat} {ps : List SPart} (h : Wr w w5 wr gl N1 i t ps) {g : Nat} (hg1 : w.heap.size ≤ g) (hg2 : g < N1) (hne : g ≠ gl) (k : Nat) (u : Value) : Wr w w5 (wr.setCell ⟨g, k, none⟩ u) gl N1 i t ps where
  head j p hj hp := by
    rw [World.cell?_setCell_other _ ⟨g, k, none⟩ ⟨gl, j, none⟩ _ (fun e => by injection e with e; exact hne e)]
    exact h.head j p hj hp
  shape := h.shape.trans (Shape.setCell _ _ _ _)
  kept q hq1 hq2 := by
    rw [← h.kept q hq1 hq2]
    exact Below.heap_setCell wr ⟨g, k, none⟩ u q (show q ≠ g by omega)
  below := h.below.setCell (p := ⟨g, k, none⟩) hg1 u
  size := by simpa using h.size
theorem Wr.app {w w5 wr w7 : World} {gl N1 i t : Nat} {ps : List SPart} {o : Obj} {row : Option Nat} {hcs : Array Value} (h : Wr w w5 wr gl N1 i t ps) (hb7 : Below w.heap.size (wr.alloc o) w7) (hg : (wr.alloc o).grownBy w7 row) (hrow : ∀ r, row = some r → r < N1 ∧ r ≠ gl) (hs : Shape (wr.alloc o) w7)
    (hgl : Blk wr gl 22 hcs) (hglB : w.heap.size ≤ gl) (hglN : gl < N1) (hN : N1 ≤ w5.heap.size) (u : Value) : Wr w w5 (w7.setCell ⟨gl, i, none⟩ u) gl N1 (i + 1) t ps where
  head j p hj hp := by
    have hk : Blk w7 gl 22 hcs := (hgl.alloc o).grown hg (fun e => (hrow gl e.symm).2 rfl)
    have h1 := h.head j p (by omega) hp
    rw [hgl.cell j] at h1
    rw [(hk.set_ i u).cell j, Array.getElem?_setIfInBounds_ne (by omega)]
    exact h1
  shape := ((h.shape.trans (Shape.alloc _ o)).trans hs).trans (Shape.setCell _ _ _ _)
  kept q hq1 hq2 := by
    rw [← h.kept q hq1 hq2]
    have h1 : (w7.setCell ⟨gl, i, none⟩ u).heap[q]? = w7.heap[q]? := Below.heap_setCell w7 ⟨gl, i, none⟩ u q (show q ≠ gl by omega)
    rw [h1]
    have hz := h.size
    rw [hg.block q (by simp; omega) (fun e => by have := (hrow q e.symm).1; omega)]
    exact Below.heap_alloc wr o q (by omega)
  below := ((h.below.alloc h.below.size o).trans hb7).setCell (p := ⟨gl, i, none⟩) hglB u
  size := by
    have h1 := hg.size
    have h2 := h.size
    simp at h1 ⊢
    omega
theorem own_kept {w w' : World} {B : Nat} {e : TypeId} {v : Value} {n : Nat} {xs : List Value} (h : w.ownsRow B e 1 v n xs) (hk : ∀ k, B ≤ k → k < w.heap.size → w'.heap[k]? = w.heap[k]?) : w'.ownsRow B e 1 v n xs := by
  obtain ⟨h1, h2⟩ := h
  refine ⟨h1, ?_⟩
  rcases h2 with h2 | ⟨g, cap, cur, rfl, b, c, d⟩
  · exact .inl h2
  · have hg : Blk w g e cur := c
    exact .inr ⟨g, cap, cur, rfl, b, (hk g b hg.lt).trans c, d⟩
theorem LOwn.kept {w w' : World} {B : Nat} {v : Value} {ps : List SPart} (h : LOwn w B v ps) (hk : ∀ k, B ≤ k → k < w.heap.size → w'.heap[k]? = w.heap[k]?) : LOwn w' B v ps :=
  ⟨own_kept h.1 hk, fun p hp => own_kept (h.2 p hp) hk⟩
theorem Shape.of_below {w w' : World} (h : Below w.heap.size w w') : Shape w w' := fun k t cs hk => ⟨cs, hk.below h hk.lt, rfl⟩
theorem Room.base {w : World} {B B' N : Nat} {p : SPart} (h : Room w B' N p) (hB : B ≤ B') : Room w B N p := by
  obtain ⟨h1, h2, h3⟩ := h
  refine ⟨h1, h2, h3.imp id ?_⟩
  rintro ⟨g, cs, e, hb, r⟩
  exact ⟨g, cs, e, by omega, r⟩
/-- the row that holds the lists -/
theorem row_head {w : World} {B n c : Nat} {A : Option Addr} {e : TypeId} {xs : List Value} (h : w.ownsRow B e 1 (.slice A n c) n xs) : ∃ gl, 0 < n → A = some ⟨gl, 0, none⟩ ∧ B ≤ gl ∧ gl < w.heap.size ∧ (∃ cs, Blk w gl e cs) ∧ ∀ j u, xs[j]? = some u → w.cell? ⟨gl, j, none⟩ = some u := by
  rcases h.2 with ⟨h1, h2⟩ | ⟨g, cap, cur, hv, hb, hg, _⟩
  · exact ⟨0, fun h0 => by omega⟩
  · injection hv with e1 e2 e3
    have hk : Blk w g e cur := hg
    refine ⟨g, fun h0 => ⟨e1, hb, hk.lt, ⟨cur, hk⟩, fun j u hu => ?_⟩⟩
    subst e1
    have := h.cells (g := g) rfl j u hu
    rwa [add_lit, Nat.zero_add] at this
end Go.Proofs.Ytbpodmgogokpiaa
