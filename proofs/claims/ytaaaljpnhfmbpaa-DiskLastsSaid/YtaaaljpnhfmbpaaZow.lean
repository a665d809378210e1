/- A row that the call owns, also one that a conversion of a text has laid (its frozen range lies beyond its cells); an append to it. Conditions: those of each theorem. -/
import Derived.Test.YtaaaljpnhfmbpaaGrow
import Derived.Test.YtaaaljpnhfmbpaaTx
import Derived.Test.YtaaaljpnhfmbpaaStep
import Derived.Test.YtaaaljpnhfmbpaaMapS
namespace Go.Proofs.Ytaaaljpnhfmbpaa
open Go.RowKit
set_option linter.unusedVariables false

/-- a row of cells of one value each -/
def OwnZ (w : World) (base : Nat) (e : TypeId) (v : Value) (n : Nat) (xs : List Value) : Prop :=
  xs.length = n ∧ ((v = .slice none 0 0 ∧ n = 0) ∨
    ∃ g cap cur fz, v = .slice (some ⟨g, 0, none⟩) n cap ∧ base ≤ g ∧ w.heap[g]? = some (.cells cur e fz) ∧ (fz = (0, 0) ∨ cur.size ≤ fz.1) ∧ n ≤ cap ∧ cap ≤ maxLen ∧ cur.size = cap ∧ cur.toList.take n = xs)
section
variable {w w' : World} {B : Nat} {e : TypeId} {v : Value} {n : Nat} {xs : List Value}
theorem zown_of (h : w.ownsRow B e 1 v n xs) : OwnZ w B e v n xs := by
  obtain ⟨h1, h2⟩ := h
  refine ⟨by omega, ?_⟩
  rcases h2 with h2 | ⟨g, cap, cur, a, b, c, d1, d2, d3, d4⟩
  · exact .inl h2
  · exact .inr ⟨g, cap, cur, (0, 0), a, b, c, .inl rfl, d1, d2, by omega, by rw [Nat.mul_one] at d4; exact d4⟩
theorem zown_nil (w : World) (B : Nat) (e : TypeId) : OwnZ w B e (.slice none 0 0) 0 [] := ⟨rfl, .inl ⟨rfl, rfl⟩⟩
theorem zown_kept (h : OwnZ w B e v n xs) (hk : ∀ k, v.ownBlock = some k → w'.heap[k]? = w.heap[k]?) : OwnZ w' B e v n xs := by
  obtain ⟨h1, h2⟩ := h
  refine ⟨h1, ?_⟩
  rcases h2 with h2 | ⟨g, cap, cur, fz, rfl, b, c, d⟩
  · exact .inl h2
  · exact .inr ⟨g, cap, cur, fz, rfl, b, (hk g rfl).trans c, d⟩
theorem zown_at (h : OwnZ w B e v n xs) {k : Nat} (hk : v.ownBlock = some k) : B ≤ k ∧ k < w.heap.size ∧ ∃ cur fz, w.heap[k]? = some (.cells cur e fz) := by
  rcases h.2 with ⟨h2, _⟩ | ⟨g, cap, cur, fz, hv, hb, hg, _⟩
  · rw [h2] at hk; cases hk
  · subst hv
    obtain rfl : g = k := by simpa [Value.ownBlock] using hk
    exact ⟨hb, (Array.getElem?_eq_some_iff.1 hg).1, _, _, hg⟩
theorem zown_lt {k : Nat} (h : OwnZ w B e v n xs) (hk : v.ownBlock = some k) : k < w.heap.size := (zown_at h hk).2.1
theorem zown_below (h : OwnZ w B e v n xs) (hb : Below w.heap.size w w') : OwnZ w' B e v n xs := zown_kept h fun k hk => hb.block k (zown_lt h hk)
theorem zown_far (h : OwnZ w B e v n xs) {p : Addr} (hp : v.ownBlock ≠ some p.block) (u : Value) : OwnZ (w.setCell p u) B e v n xs :=
  zown_kept h fun k hk => Below.heap_setCell w p u k (fun e => hp (by rw [hk, e]))
theorem zown_not {k : Nat} {t : TypeId} {cs : Array Value} (h : OwnZ w B e v n xs) (hk : Blk w k t cs) (hne : t ≠ e) : v.ownBlock ≠ some k := fun e' => by
  obtain ⟨_, _, cur, fz, hg⟩ := zown_at h e'
  unfold Blk at hk
  rw [hk] at hg
  injection hg with hg
  injection hg with _ h2 _
  exact hne h2
theorem zown_not_map {r : Nat} {kvs : List KV} (h : OwnZ w B e v n xs) (hk : Ms w r kvs) : v.ownBlock ≠ some r := fun e' => by
  obtain ⟨_, _, cur, fz, hg⟩ := zown_at h e'
  obtain ⟨es, ck, h1, _⟩ := hk
  rw [h1] at hg
  cases hg
theorem zown_putObj {r : Nat} {kvs : List KV} (h : OwnZ w B e v n xs) (hm : Ms w r kvs) (o : Obj) : OwnZ (w.putObj r o) B e v n xs :=
  zown_kept h fun k hk => World.putObj_heap_other (fun e' => zown_not_map h hm (by rw [hk, e']))
theorem zown_slice (h : OwnZ w B e v n xs) : ∃ A cap, v = .slice A n cap ∧ n ≤ cap ∧ cap ≤ maxLen := by
  rcases h.2 with ⟨rfl, rfl⟩ | ⟨g, cap, cur, fz, hv, hb, hg, _, h1, h2, _⟩
  · exact ⟨none, 0, rfl, Nat.le_refl _, by decide⟩
  · exact ⟨_, cap, hv, h1, h2⟩
theorem zown_base {B' : Nat} (h : OwnZ w B' e v n xs) (hB : B ≤ B') : OwnZ w B e v n xs := by
  obtain ⟨h1, h2⟩ := h
  refine ⟨h1, ?_⟩
  rcases h2 with h2 | ⟨g, cap, cur, fz, a, b, c⟩
  · exact .inl h2
  · exact .inr ⟨g, cap, cur, fz, a, Nat.le_trans hB b, c⟩
theorem zown_take {A : Option Addr} {c m : Nat} (h : OwnZ w B e (.slice A n c) n xs) (hm : m ≤ n) : OwnZ w B e (.slice A m c) m (xs.take m) := by
  obtain ⟨h1, h2⟩ := h
  refine ⟨by rw [List.length_take]; omega, ?_⟩
  rcases h2 with ⟨h2, h3⟩ | ⟨g, cap, cur, fz, hv, b, c', d0, d1, d2, d3, d4⟩
  · injection h2 with e1 e2 e3
    subst e1 e3
    obtain rfl : m = 0 := by omega
    exact .inl ⟨rfl, rfl⟩
  · injection hv with e1 e2 e3
    subst e1 e3
    refine .inr ⟨g, c, cur, fz, rfl, b, c', d0, by omega, d2, d3, ?_⟩
    rw [← d4, List.take_take]
    congr 1
    omega
theorem zown_grownN {row : Option Nat} (h : OwnZ w B e v n xs) (hg : w.grownBy w' row) (hr : ∀ r, row = some r → ∃ o, w.heap[r]? = some o ∧ o.isCells = false) : OwnZ w' B e v n xs :=
  zown_kept h fun k hk => hg.block k (zown_lt h hk) (fun e' => by
    obtain ⟨o, ho, hc⟩ := hr k e'.symm
    obtain ⟨_, _, cur, fz, hgg⟩ := zown_at h hk
    rw [hgg] at ho
    injection ho with ho
    subst ho
    cases hc)
theorem zown_cells {g : Nat} (h : OwnZ w B e v n xs) (hg : v.ownBlock = some g) : ∀ j u, xs[j]? = some u → w.cell? ⟨g, j, none⟩ = some u := by
  intro j u hu
  rcases h.2 with ⟨h2, _⟩ | ⟨g', cap, cur, fz, hv, hb, hgg, _, _, _, _, htake⟩
  · rw [h2] at hg; cases hg
  · subst hv
    obtain rfl : g' = g := by simpa [Value.ownBlock] using hg
    rw [cell_of_row w g' j cur e fz hgg]
    rw [← htake, List.getElem?_take] at hu
    split at hu
    · simpa using hu
    · cases hu
theorem Reads.of_zown {A : Option Addr} {c : Nat} (h : OwnZ w B e (.slice A n c) n xs) : Reads w w.heap.size 1 A n xs := by
  refine ⟨by rw [h.1, Nat.mul_one], fun h0 => ?_⟩
  rcases h.2 with ⟨h2, h3⟩ | ⟨g, cap, cur, fz, hv, hb, hg, _⟩
  · omega
  · injection hv with e1 e2 e3
    subst e1
    exact ⟨g, 0, rfl, (Array.getElem?_eq_some_iff.1 hg).1, fun j u hu => by rw [Nat.zero_add]; exact zown_cells h rfl j u hu⟩
theorem zown_conv (s : ByteArray) (e : TypeId) (w : World) (hs : s.size ≤ maxLen) : OwnZ (convW s e w) w.heap.size e (convV s e w) s.size (bvs s.data.toList) := by
  refine ⟨by simp [bvs], .inr ⟨w.heap.size, grownCap w s.size 0 e, bytesRow s (grownCap w s.size 0 e), _, rfl, Nat.le_refl _, heap_alloc_new w.drew _, .inr (Nat.le_refl _), grownCap_ge w s.size 0 e, grownCap_le_maxLen _ _ _ _ hs, ?_, ?_⟩⟩
  · have := grownCap_ge w s.size 0 e
    simp [bytesRow]
    show s.size + _ = _
    omega
  · have hl : s.data.toList.length = s.size := Array.length_toList
    unfold bytesRow bvs
    rw [Array.toList_append, List.take_append_of_le_length (by simp)]
    rw [List.take_of_length_le (by simp)]
    simp
end

theorem run_storeCells_z (P : Program) (g o : Nat) (t : TypeId) (fz : Nat × Nat) : ∀ (vs : List Value) (i : Nat) (cur : Array Value) (w : World), w.heap[g]? = some (.cells cur t fz) → (fz = (0, 0) ∨ cur.size ≤ fz.1) → o + i + vs.length ≤ cur.size → (∀ v ∈ vs, v.oneCell' = true) →
    (storeCells ⟨g, o, none⟩ vs i).run P w = .ok () (w.setRow g (cur.toList.take (o + i) ++ vs ++ cur.toList.drop (o + i + vs.length)).toArray)
  | [], i, cur, w, hg, _, _, _ => by
    simp only [storeCells, List.append_nil, List.length_nil, Nat.add_zero, List.take_append_drop, Array.toArray_toList]
    rw [setRow_self w g cur t fz hg]
    rfl
  | v :: rest, i, cur, w, hg, hfz, hl, h1 => by
    have hi : o + i < cur.size := by simp at hl; omega
    have hcell : w.cell? ⟨g, o + i, none⟩ = some cur[o + i] := by simp [World.cell?, hg, hi]
    have hfro : w.frozen? ⟨g, o + i, none⟩ = false := by
      rcases hfz with rfl | hfz
      · simp [World.frozen?, hg]
      · obtain ⟨lo, hi'⟩ := fz
        simp only at hfz
        simp only [World.frozen?, hg, Bool.and_eq_false_iff, decide_eq_false_iff_not]
        left
        omega
    have hst : (store ((⟨g, o, none⟩ : Addr).add i) v).run P w = .ok () (w.setRow g (cur.setIfInBounds (o + i) v)) := by
      rw [add_lit, run_store P w _ v _ (h1 v (by simp)), hcell]
      simp [hfro, setCell_eq_setRow w g (o + i) cur t fz v hg]
    have ih := run_storeCells_z P g o t fz rest (i + 1) (cur.setIfInBounds (o + i) v) (w.setRow g (cur.setIfInBounds (o + i) v)) (setRow_heap w g cur _ t _ hg) (by simpa using hfz) (by simp at hl ⊢; omega) (fun x hx => h1 x (by simp [hx]))
    simp only [storeCells, Sem.run_bind, hst, Result.andThen_ok, ih, setRow_setRow]
    congr 3
    have e := list_seg_step cur.toList (o + i) v rest (by simp at hl ⊢; omega)
    simpa [Array.toList_setIfInBounds, Nat.add_assoc] using e

section
variable {P : Program} {w : World}
theorem run_append_z (t ty e : TypeId) (bytes : Nat) (z : Value) (hE : ElemOk P e 1 bytes z) (ht : P.underlying t = some (.slice e))
    {base : Nat} {v : Value} {n : Nat} {xs : List Value} (hown : OwnZ w base e v n xs) {B : Nat} {A : Option Addr} {m c : Nat} {news : List Value} (hr : Reads w B 1 A m news) (h1 : ∀ u ∈ news, u.oneCell' = true)
    (h63 : n + m ≤ maxLen) (hbytes : (n + m) * bytes ≤ 140737488355328) (hbase : base ≤ w.heap.size) :
    ∃ v' w', (Builtin.append_ #[t, t] ty #[v, .slice A m c]).run P w = .ok v' w' ∧ OwnZ w' base e v' (n + m) (xs ++ news) ∧ w.grownBy w' v.ownBlock ∧ (v'.ownBlock = v.ownBlock ∨ v'.ownBlock = some w.heap.size) := by
  have hown0 := hown
  rcases hown.2 with ⟨rfl, rfl⟩ | ⟨g, cap, cur, fz, rfl, hbg, hg, hfz, hnc, hcm, hcs, htake⟩
  · obtain ⟨v', w', a1, a2, a3, a4⟩ := run_append_any (P := P) t ty e 1 bytes z hE ht (xs := xs) (n := 0) (v := .slice none 0 0) (base := base) ⟨by rw [hown.1], .inl ⟨rfl, rfl⟩⟩ (c := c) hr h1 h63 hbytes hbase
    exact ⟨v', w', a1, zown_of a2, a3, a4⟩
  · obtain ⟨i, hi, hz, hsize, hby, hzs, hsz⟩ := hE
    have hxl : xs.length = n := hown.1
    have hnl : news.length = m := by have := hr.1; omega
    have hlen : (xs ++ news).length = n + m := by rw [List.length_append]; omega
    rcases Nat.eq_zero_or_pos m with h0 | h0
    · subst h0
      obtain rfl : news = [] := List.eq_nil_of_length_eq_zero hnl
      cases A with
      | none =>
        refine ⟨_, w, ?_, by simpa using hown0, ⟨rfl, rfl, rfl, Nat.le_refl _, fun _ _ _ => rfl⟩, .inl rfl⟩
        simp [Builtin.append_, run_underlying ht, sizeOf, typeInfo, hi, Builtin.lenOf, Builtin.firstCells, hnc, storeCells]
      | some ad =>
        have hf := run_firstCells_some (P := P) w i.size 0 ad 0 c [] (by simp) (fun j u hu => by simp at hu)
        refine ⟨_, w, ?_, by simpa using hown0, ⟨rfl, rfl, rfl, Nat.le_refl _, fun _ _ _ => rfl⟩, .inl rfl⟩
        simp [Builtin.append_, run_underlying ht, sizeOf, typeInfo, hi, Builtin.lenOf, hf, hnc, storeCells]
    · obtain ⟨b, o, rfl, hb, hc⟩ := hr.2 h0
      have hnews : ∀ q u, news[q]? = some u → w.cell? ((⟨b, o, none⟩ : Addr).add q) = some u := fun q u hq => by rw [add_lit]; exact hc q u hq
      by_cases hroom : n + m ≤ cap
      · have hf := run_firstCells_some (P := P) w i.size m ⟨b, o, none⟩ m c news (by rw [hsize, hnl, Nat.mul_one]) hnews
        have hst := run_storeCells_z P g (n * i.size) e fz news 0 cur w hg hfz (by rw [hsize, hnl]; omega) h1
        simp only [Nat.add_zero] at hst
        refine ⟨.slice (some ⟨g, 0, none⟩) (n + m) cap, w.setRow g (cur.toList.take (n * i.size) ++ news ++ cur.toList.drop (n * i.size + news.length)).toArray, by simp [Builtin.append_, run_underlying ht, sizeOf, typeInfo, hi, Builtin.lenOf, hroom, hf, Addr.add_lit, hst], ⟨hlen, .inr ⟨g, cap, _, fz, rfl, hbg, setRow_heap w g cur _ e _ hg, ?_, hroom, hcm, ?_, ?_⟩⟩, ⟨rfl, rfl, rfl, by simp, fun k _ hk => setRow_other w g k _ (fun e' => hk (by simp [Value.ownBlock, e']))⟩, .inl rfl⟩
        · rcases hfz with hfz | hfz
          · exact .inl hfz
          · refine .inr ?_
            simp only [List.size_toArray, List.length_append, List.length_take, List.length_drop, Array.length_toList, hnl, hsize]
            omega
        · simp only [List.size_toArray, List.length_append, List.length_take, List.length_drop, Array.length_toList, hnl, hsize]
          omega
        · rw [hsize, Nat.mul_one, htake, ← hlen]
          exact List.take_left
      · have hgr := run_append_grow (P := P) w t ty e i z ht hi hz ⟨g, 0, none⟩ n cap xs (by rw [hxl, hsize, Nat.mul_one]) (fun j u hu => by rw [add_lit, Nat.zero_add]; exact zown_cells hown0 rfl j u hu) ⟨b, o, none⟩ m c news (by rw [hnl, hsize, Nat.mul_one]) hnews (by omega) (by unfold maxLen at h63; omega) (by rw [hby]; exact growslice_fits (by omega) hbytes)
        have hge := grownCap_ge w (n + m) cap e
        have hcm2 := grownCap_le_maxLen w (n + m) cap e h63
        refine ⟨_, _, hgr, ⟨hlen, .inr ⟨w.heap.size, _, _, (0, 0), rfl, hbase, heap_alloc_new w.drew _, .inl rfl, hge, hcm2, ?_, ?_⟩⟩, ⟨rfl, rfl, rfl, by simp, fun k hk _ => Below.heap_alloc w.drew _ k hk⟩, .inr rfl⟩
        · simp only [Array.size_append, List.size_toArray, size_zeroCells, hzs, hxl, hnl]
          omega
        · simp only [Array.toList_append, List.append_assoc]
          rw [← List.append_assoc, ← hlen]
          exact List.take_left
theorem below_grownZ {base : Nat} {e : TypeId} {v : Value} {n : Nat} {xs : List Value} {w' : World} (hown : OwnZ w base e v n xs) (hg : w.grownBy w' v.ownBlock) (hbase : base ≤ w.heap.size) : Below base w w' :=
  (Below.refl base w).grown hg hbase (fun k hk => (zown_at hown hk).1)
end
end Go.Proofs.Ytaaaljpnhfmbpaa
