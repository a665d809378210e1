/- An append to a slice that the call owns leaves the elder cells as they were, wherever the new slice lies; as a step of a region that draws its order. Conditions: those of each theorem. -/
import Derived.Test.YthfgblchlgodmaaLib
import Derived.Maps.AppendAt
import Derived.Deep.AppendLies
namespace Go.Proofs.Ythfgblchlgodmaa
open Go.RowKit
set_option linter.unusedVariables false

theorem run_append_keep {P : Program} {w : World} (t ty e : TypeId) (bytes : Nat) (z : Value) (hE : ElemOk P e 1 bytes z) (ht : P.underlying t = some (.slice e))
    {base g n cap : Nat} {xs : List Value} (hown : w.ownsRow base e 1 (.slice (some ⟨g, 0, none⟩) n cap) n xs) {B : Nat} {A : Option Addr} {m c : Nat} {news : List Value} (hr : Reads w B 1 A m news) (hm : 0 < m) (h1 : ∀ u ∈ news, u.oneCell' = true)
    (h63 : n + m ≤ maxLen) (hbytes : (n + m) * bytes ≤ 140737488355328) (hbase : base ≤ w.heap.size) :
    ∃ v' w', (Builtin.append_ #[t, t] ty #[.slice (some ⟨g, 0, none⟩) n cap, .slice A m c]).run P w = .ok v' w' ∧ w'.ownsRow base e 1 v' (n + m) (xs ++ news) ∧ Below base w w' ∧ (∀ i, i < n → w'.cell? ⟨g, i, none⟩ = w.cell? ⟨g, i, none⟩) ∧ w.grownBy w' (some g) := by
  obtain ⟨v', w', hrun, h2, h3, h4⟩ := run_append_any (P := P) t ty e 1 bytes z hE ht hown (c := c) hr h1 h63 hbytes hbase
  refine ⟨v', w', hrun, h2, below_grown hown h3 hbase, fun i hi => ?_, h3⟩
  have hxl : xs.length = n := by have := hown.1; omega
  obtain ⟨u, hu⟩ : ∃ u, xs[i]? = some u := ⟨xs[i]'(by omega), List.getElem?_eq_getElem (by omega)⟩
  have hold := hown.cells (g := g) rfl i u hu
  rw [add_lit, Nat.zero_add] at hold
  rw [hold]
  rcases h4 with h4 | h4
  · have := h2.cells (g := g) h4 i u (by rw [List.getElem?_append_left (by omega)]; exact hu)
    rwa [add_lit, Nat.zero_add] at this
  · obtain ⟨j, hj, hz, hsize, hby, hzs, hsz⟩ := hE
    obtain ⟨b, o, rfl, hb, hc⟩ := hr.2 hm
    have hnews : ∀ q v, news[q]? = some v → w.cell? ((⟨b, o, none⟩ : Addr).add q) = some v := fun q v hq => by rw [add_lit]; exact hc q v hq
    have hg : g < w.heap.size := (hown.lt g rfl).2
    by_cases hroom : n + m ≤ cap
    · exfalso
      rcases hown.2 with ⟨h, _⟩ | ⟨g', cap', cur, hv, hbg, hgg, hnc, hcm, hcs, htake⟩
      · cases h
      · injection hv with hv1 hv2 hv3
        injection hv1 with hv1
        injection hv1 with hv1
        subst hv1 hv3
        have hrr := run_append_room (P := P) w t ty e j ht hj g n cap cur hgg ⟨b, o, none⟩ m c news (by rw [hr.1, hsize]) hnews h1 hroom (by rw [hr.1, hsize, hcs]; omega)
        rw [hrr] at hrun
        injection hrun with e1 e2
        rw [← e1] at h4
        simp [Value.ownBlock] at h4
        omega
    · have hgr := run_append_grow (P := P) w t ty e j z ht hj hz ⟨g, 0, none⟩ n cap xs (by rw [hown.1, hsize]) (hown.cells (g := g) rfl) ⟨b, o, none⟩ m c news (by rw [hr.1, hsize]) hnews (by omega) (by unfold maxLen at h63; omega) (by rw [hby]; exact growslice_fits (by omega) hbytes)
      rw [hgr] at hrun
      injection hrun with e1 e2
      rw [← e2, World.cell?_alloc_lt _ _ _ (by simpa using hg)]
      exact hold

/-- the same, as a step of a region that draws its order -/
theorem step_append_keep {P : Program} {ops : Array Oper} {o : Oper} {a : Act} {w : World} {K : Act → World → Prop} {Q : Exit → Act → World → Prop} {E : Prop} (hgd : o.guard = none) (s x : Operand) (t : TypeId)
    (ho : o.op = .call { callee := .builtin .append, args := #[s, x], argTypes := #[t, t] })
    {e : TypeId} {bytes : Nat} {z : Value} (hE : ElemOk P e 1 bytes z) (ht : P.underlying t = some (.slice e))
    {base g n cap : Nat} {xs : List Value} (hown : w.ownsRow base e 1 (.slice (some ⟨g, 0, none⟩) n cap) n xs) (hs : a.eval s = .slice (some ⟨g, 0, none⟩) n cap) {B : Nat} {A : Option Addr} {m c : Nat} {news : List Value} (hr : Reads w B 1 A m news) (hm : 0 < m) (hx : a.eval x = .slice A m c) (h1 : ∀ u ∈ news, u.oneCell' = true)
    (h63 : n + m ≤ maxLen) (hbytes : (n + m) * bytes ≤ 140737488355328) (hbase : base ≤ w.heap.size)
    (h : ∀ v' w', w'.ownsRow base e 1 v' (n + m) (xs ++ news) → Below base w w' → (∀ i, i < n → w'.cell? ⟨g, i, none⟩ = w.cell? ⟨g, i, none⟩) → w.grownBy w' (some g) → K (a.put o.dst v') w') : if Region.wanted o (yielded ops a.tmps) = true then Oper.wp P o a w K Q else E := by
  have hw : Region.wanted o (yielded ops a.tmps) = true := by simp [Region.wanted, hgd]
  rw [if_pos hw]
  obtain ⟨v', w', hrun, h2, h3, h4, h5⟩ := run_append_keep (P := P) t o.type e bytes z hE ht hown (c := c) hr hm h1 h63 hbytes hbase
  unfold Oper.wp execOp
  simp only [ho, resolve, invoke, builtin, Sem.run_bind, Sem.run_pure, Result.andThen_ok, List.map_toArray, List.map_cons, List.map_nil, hs, hx, hrun]
  exact h _ _ h2 h3 h4 h5
/-- an append in a region that draws its order -/
theorem step_append {P : Program} {ops : Array Oper} {o : Oper} {a : Act} {w : World} {K : Act → World → Prop} {Q : Exit → Act → World → Prop} {E : Prop} (hgd : o.guard = none) (s x : Operand) (t : TypeId)
    (ho : o.op = .call { callee := .builtin .append, args := #[s, x], argTypes := #[t, t] })
    {e : TypeId} {size bytes : Nat} {z : Value} (hE : ElemOk P e size bytes z) (ht : P.underlying t = some (.slice e))
    {base : Nat} {v : Value} {n : Nat} {xs : List Value} (hown : w.ownsRow base e size v n xs) (hs : a.eval s = v) {B : Nat} {A : Option Addr} {m c : Nat} {news : List Value} (hr : Reads w B size A m news) (hx : a.eval x = .slice A m c) (h1 : ∀ u ∈ news, u.oneCell' = true)
    (h63 : n + m ≤ maxLen) (hbytes : (n + m) * bytes ≤ 140737488355328) (hbase : base ≤ w.heap.size)
    (h : ∀ v' w', w'.ownsRow base e size v' (n + m) (xs ++ news) → Below base w w' → w.grownBy w' v.ownBlock → K (a.put o.dst v') w') : if Region.wanted o (yielded ops a.tmps) = true then Oper.wp P o a w K Q else E := by
  have hw : Region.wanted o (yielded ops a.tmps) = true := by simp [Region.wanted, hgd]
  rw [if_pos hw]
  obtain ⟨v', w', hrun, h2, h3, h4⟩ := run_append_any (P := P) t o.type e size bytes z hE ht hown (c := c) hr h1 h63 hbytes hbase
  unfold Oper.wp execOp
  simp only [ho, resolve, invoke, builtin, Sem.run_bind, Sem.run_pure, Result.andThen_ok, List.map_toArray, List.map_cons, List.map_nil, hs, hx, hrun]
  exact h _ _ h2 (below_grown hown h3 hbase) h3
end Go.Proofs.Ythfgblchlgodmaa
