/- The walk of Files (package disk). Conditions: those of the theorem. -/
import Derived.Test.YtaaaljpnhfmbpaaDkH
import Derived.Test.YtaaaljpnhfmbpaaRegR
namespace Go.Proofs.Ytaaaljpnhfmbpaa
open Go.RowKit Go.Shelf
set_option linter.unusedVariables false
attribute [local go_sem] Oper.semAt_some

theorem file_ok : ElemOk Try.prog 27 3 40 (.agg #[.string ⟨#[]⟩, .string ⟨#[]⟩, .int .i64 0]) := elemOk (by kernel_rfl) rfl (by decide)
/-- files as cells -/
def fvs (l : List FP) : List Value := l.flatMap fun f => [.string f.name, .string ⟨f.b.toArray⟩, .int .i64 f.sy]
theorem fvs_append (l m : List FP) : fvs (l ++ m) = fvs l ++ fvs m := by simp [fvs]
theorem fvs_one (l : List FP) : ∀ u ∈ fvs l, u.oneCell' = true := by
  intro u hu
  simp only [fvs, List.mem_flatMap] at hu
  obtain ⟨f, _, hu⟩ := hu
  simp at hu
  rcases hu with rfl | rfl | rfl <;> rfl
theorem fvs_len (l : List FP) : (fvs l).length = l.length * 3 := by
  unfold fvs
  induction l with
  | nil => rfl
  | cons f l ih => rw [List.flatMap_cons, List.length_append, ih, List.length_cons]; simp; omega

theorem Blk.grownN {w w' : World} {row : Option Nat} {k : Nat} {t : TypeId} {cs : Array Value} (h : Blk w k t cs) (hg : w.grownBy w' row) (hr : ∀ r, row = some r → ∃ o, w.heap[r]? = some o ∧ o.isCells = false) : Blk w' k t cs :=
  h.grown hg (fun e => by
    obtain ⟨o, ho, hc⟩ := hr k e.symm
    unfold Blk at h
    rw [h] at ho
    injection ho with ho
    subst ho
    cases hc)
theorem own_grownN {w w' : World} {row : Option Nat} {B : Nat} {e : TypeId} {size : Nat} {v : Value} {n : Nat} {xs : List Value} (h : w.ownsRow B e size v n xs) (hg : w.grownBy w' row) (hr : ∀ r, row = some r → ∃ o, w.heap[r]? = some o ∧ o.isCells = false) : w'.ownsRow B e size v n xs := by
  obtain ⟨h1, h2⟩ := h
  refine ⟨h1, ?_⟩
  rcases h2 with h2 | ⟨g, cap, cur, rfl, b, c, d⟩
  · exact .inl h2
  · have hk : Blk w g e cur := c
    exact .inr ⟨g, cap, cur, rfl, b, hk.grownN hg hr, d⟩
theorem DK.grownN {B R0 : Nat} {w w' : World} {g r : Nat} {fs : List FP} {st lf : Int} {en : Bool} {row : Option Nat} (h : DK B w g r fs st en lf) (hg : w.grownBy w' row) (hr : ∀ q, row = some q → R0 ≤ q ∧ ∃ o, w.heap[q]? = some o ∧ o.isCells = false) (hR : r < R0) : DK B w' g r fs st en lf := by
  have hr' : ∀ q, row = some q → ∃ o, w.heap[q]? = some o ∧ o.isCells = false := fun q e => (hr q e).2
  obtain ⟨h1, h2, h3, h4, h5, h6⟩ := h
  refine ⟨h1.grownN hg hr', h2, h3, h4.keep (hg.block r h4.lt (fun e => by have := (hr _ e.symm).1; omega)), fun f hf => ?_, h6⟩
  obtain ⟨a1, a2, a3, a4⟩ := h5 f hf
  exact ⟨a1.grownN hg hr', a2, zown_grownN a3 hg hr', a4⟩

theorem own_base3 {w : World} {B B' : Nat} {e : TypeId} {size : Nat} {v : Value} {n : Nat} {xs : List Value} (h : w.ownsRow B' e size v n xs) (hB : B ≤ B') : w.ownsRow B e size v n xs := by
  obtain ⟨h1, h2⟩ := h
  refine ⟨h1, ?_⟩
  rcases h2 with h2 | ⟨g, cap, cur, a, b, c⟩
  · exact .inl h2
  · exact .inr ⟨g, cap, cur, a, Nat.le_trans hB b, c⟩
theorem own_cellsN {w : World} {B : Nat} {e : TypeId} {size : Nat} {v : Value} {n k : Nat} {xs : List Value} (h : w.ownsRow B e size v n xs) (hk : v.ownBlock = some k) : ∃ cs, Blk w k e cs := by
  rcases h.2 with ⟨h2, _⟩ | ⟨g, cap, cur, hv, hb, hg, _⟩
  · rw [h2] at hk; cases hk
  · subst hv
    obtain rfl : g = k := by simpa [Value.ownBlock] using hk
    exact ⟨cur, hg⟩
theorem own_notN {w : World} {B : Nat} {e t : TypeId} {size : Nat} {v : Value} {n k : Nat} {xs : List Value} {cs : Array Value} (h : w.ownsRow B e size v n xs) (hk : Blk w k t cs) (hne : t ≠ e) : v.ownBlock ≠ some k := fun e' => by
  obtain ⟨cs', h'⟩ := own_cellsN h e'
  exact hk.ne_ h' hne rfl
theorem own_farN {w : World} {B : Nat} {e : TypeId} {size : Nat} {v : Value} {n : Nat} {xs : List Value} (h : w.ownsRow B e size v n xs) {p : Addr} (hp : v.ownBlock ≠ some p.block) (u : Value) : (w.setCell p u).ownsRow B e size v n xs := by
  obtain ⟨h1, h2⟩ := h
  refine ⟨h1, ?_⟩
  rcases h2 with h2 | ⟨g, cap, cur, rfl, b, c, d⟩
  · exact .inl h2
  · have hk : Blk w g e cur := c
    exact .inr ⟨g, cap, cur, rfl, b, hk.far (fun e => hp (by rw [← e]; rfl)) u, d⟩
theorem own_sliceN {w : World} {B : Nat} {e : TypeId} {size : Nat} {v : Value} {n : Nat} {xs : List Value} (h : w.ownsRow B e size v n xs) : ∃ A n c, v = .slice A n c := by
  rcases h.2 with ⟨e1, e2⟩ | ⟨g', cap', cur, hv, _⟩
  · exact ⟨_, _, _, e1⟩
  · exact ⟨_, _, _, hv⟩
theorem drew_alloc (W : World) (o : Obj) : W.grownBy (W.drew.alloc o) none :=
  have h := World.grownBy_alloc W.drew o none
  ⟨h.os, h.tape, h.output, h.size, h.block⟩
theorem files_cell {W Wa w6 : World} {L base n : Nat} {v : Value} {xs : List Value} (q1 : Blk W L 24 #[v]) (q2 : W.ownsRow base 27 3 v n xs) (ha : W.grownBy Wa none) (hg6 : Wa.grownBy w6 v.ownBlock) : Blk w6 L 24 #[v] := by
  have h1 : Wa.heap[L]? = W.heap[L]? := ha.block L q1.lt (by simp)
  have h2 : w6.heap[L]? = Wa.heap[L]? := hg6.block L (Nat.lt_of_lt_of_le q1.lt ha.size) (fun e => own_notN q2 q1 (by decide) e.symm)
  exact (h2.trans h1).trans q1
theorem files_leaf {w W Wa w6 : World} {L base n r : Nat} {v v6 : Value} {xs ys : List Value} {kvs : List KV} (q1 : Blk W L 24 #[v]) (q2 : W.ownsRow base 27 3 v n xs) (q4 : Below w.heap.size w W) (q5 : base ≤ W.heap.size) (hm : Ms W r kvs) (hL : L = w.heap.size) (hLb : w.heap.size ≤ base) (ha : W.grownBy Wa none) (hg6 : Wa.grownBy w6 v.ownBlock)
    (hown6 : w6.ownsRow base 27 3 v6 (n + 1) (xs ++ ys)) (hv6 : v6.ownBlock = v.ownBlock ∨ v6.ownBlock = some Wa.heap.size) :
    KeepsFrom base W (w6.setCell ⟨L, 0, none⟩ v6) ∧ KeepsT r W (w6.setCell ⟨L, 0, none⟩ v6) ∧ (∃ v', Blk (w6.setCell ⟨L, 0, none⟩ v6) L 24 #[v'] ∧ (w6.setCell ⟨L, 0, none⟩ v6).ownsRow base 27 3 v' (n + 1) (xs ++ ys)) ∧ Below w.heap.size w (w6.setCell ⟨L, 0, none⟩ v6) ∧ base ≤ (w6.setCell ⟨L, 0, none⟩ v6).heap.size := by
  have hsz : W.heap.size ≤ (w6.setCell ⟨L, 0, none⟩ v6).heap.size := by
    have := hg6.size
    have := ha.size
    simp
    omega
  have hk : ∀ k, k < W.heap.size → k ≠ L → v.ownBlock ≠ some k → (w6.setCell ⟨L, 0, none⟩ v6).heap[k]? = W.heap[k]? := fun k h1 h2 h3 =>
    ((Below.heap_setCell w6 ⟨L, 0, none⟩ v6 k h2).trans (hg6.block k (Nat.lt_of_lt_of_le h1 ha.size) (fun e => h3 e.symm))).trans (ha.block k h1 (by simp))
  have hb : ∀ k t cs, Blk W k t cs → t ≠ 24 → t ≠ 27 → Blk (w6.setCell ⟨L, 0, none⟩ v6) k t cs := fun k t cs h1 h2 h3 =>
    (hk k h1.lt (h1.ne_ q1 h2) (own_notN q2 h1 h3)).trans h1
  have q6 := files_cell q1 q2 ha hg6
  have hLs : v6.ownBlock ≠ some L := by
    rcases hv6 with e | e
    · rw [e]; exact own_notN q2 q1 (by decide)
    · rw [e]; intro e'; injection e' with e'; have := q1.lt; have := ha.size; omega
  refine ⟨⟨hsz, fun k o hBk hk1 ho => ?_⟩, ⟨hsz, ?_, fun k cs => ⟨fun h => hb k _ cs h (by decide) (by decide), fun h => hb k _ cs h (by decide) (by decide), fun h => hb k _ cs h (by decide) (by decide)⟩⟩, ⟨v6, ?_, own_farN hown6 hLs _⟩, ?_, Nat.le_trans q5 hsz⟩
  · refine (hk k (Array.getElem?_eq_some_iff.1 hk1).1 (fun e => ?_) (fun e => ?_)).trans hk1
    · subst e
      unfold Blk at q1
      rw [q1] at hk1
      cases hk1
      cases ho
    · obtain ⟨cs, h⟩ := own_cellsN q2 e
      unfold Blk at h
      rw [h] at hk1
      cases hk1
      cases ho
  · refine hk r hm.lt (fun e => (hm.ne q1) e.symm) (fun e => ?_)
    obtain ⟨cs, h⟩ := own_cellsN q2 e
    exact hm.ne h rfl
  · exact q6.set_ 0 _
  · refine ((q4.grown ha q4.size (fun k e => by cases e)).grown hg6 (Nat.le_trans q4.size ha.size) (fun k e => ?_)).setCell (by rw [hL]; exact Nat.le_refl _) _
    obtain ⟨h1, h2⟩ := q2.lt k e
    exact Nat.le_trans hLb h1

set_option maxHeartbeats 4000000 in
set_option maxRecDepth 20000 in
theorem files_any {B g r : Nat} {fs : List FP} {st lf : Int} {en : Bool} (w : World) (h : DK B w g r fs st en lf) (hl : fs.length ≤ 100000) (hs : ∀ x ∈ fs, x.name.size ≤ maxLen) (hbz : ∀ x ∈ fs, x.n ≤ maxLen) :
    Calls Try.prog 20 #[.pointer (some ⟨g, 0, none⟩)] w fun e w' => ∃ v, e = .returned v ∧ w'.ownsRow w.heap.size 27 3 v fs.length (fvs (srtF fs)) ∧ Below w.heap.size w w' := by
  refine (callsIn_wide (n := 5)).1 ?_
  refine callsIn_of_wp_marks Try.func20 rfl trivial ?_ rfl
  simp only [Try.ntmps20, List.size_toArray, List.length_cons, List.length_nil, Nat.reduceAdd, Nat.reduceSub, Array.replicate_succ, Array.replicate_zero, List.push_toArray, List.append_toArray, List.nil_append, List.cons_append]
  refine wpIn_wide.2 ?_
  have hL0 := Blk.new w 24 #[.slice none 0 0]
  have hb0 : Below w.heap.size w (w.alloc (.cells #[.slice none 0 0] 24)) := (Below.refl _ w).alloc (Nat.le_refl _) _
  go_upto_region 2 with (fail)
  generalize w.alloc (.cells #[.slice none 0 0] 24) = w1 at *
  have h1 := h.below hb0
  have hb1 : Below w1.heap.size w1 (w1.alloc (.cells #[.pointer (some ⟨g, 0, none⟩)] 28)) := (Below.refl _ w1).alloc (Nat.le_refl _) _
  have hk2 := Blk.new w1 28 #[.pointer (some ⟨g, 0, none⟩)]
  have hL2 := hL0.below hb1 hL0.lt
  have h2 := h1.below hb1
  have hbw2 := hb0.trans (hb1.mono hb0.size)
  go_wp2_with (first
    | (go_at_call 37
       go_must (
       refine (dall_any g w1).mono ?_
       rintro e w2 ⟨rfl, rfl⟩))
    | fail)
  generalize w1.alloc (.cells #[.pointer (some ⟨g, 0, none⟩)] 28) = w2 at *
  refine (wpIn_wide (n := 5)).1 ?_
  have hrl : r < w.heap.size := h.2.2.2.1.lt
  have hrl2 : r < w2.heap.size := Nat.lt_of_lt_of_le hrl hbw2.size
  refine range_toldP rfl (by omega) (gf := 49) (lb := #[.pointer (some ⟨w1.heap.size, 0, none⟩)]) rfl trivial (enters_of Try.func49 (by kernel_rfl) rfl)
    (dall1_told _ w2 hk2 h2 hl hs) KeepsT.trans ?keepP (fun _ => rfl)
    (fun pre W => (∃ v, Blk W w.heap.size 24 #[v] ∧ W.ownsRow w2.heap.size 27 3 v pre.length (fvs pre)) ∧ Below w.heap.size w W ∧ w2.heap.size ≤ W.heap.size) ?own ?step ⟨⟨_, hL2, World.ownsRow_nil _ _ _ _⟩, hbw2, Nat.le_refl _⟩
    (fun x => { tmps := #[(Value.pointer (some ⟨g, 0, none⟩)), undef, (.slice none 0 0), (.pointer (some ⟨w.heap.size, 0, none⟩)), (.string x.name), (.pointer (some ⟨x.p, 0, none⟩)), (.pointer (some ⟨g, 0, none⟩)), (.func (.func 49) #[] #[.pointer (some ⟨w1.heap.size, 0, none⟩)]), (.string x.name), (.pointer (some ⟨x.p, 0, none⟩)), undef, undef, undef, undef, undef, undef, undef, undef, undef, undef, undef, undef, undef, undef, undef], defers := [] }) ?assign ?body ?done
  case keepP =>
    intro W k o o' hk ho hc _
    refine ⟨by simp [World.putObj], World.putObj_heap_other (by omega), fun q cs => ⟨fun e => ?_, fun e => ?_, fun e => ?_⟩⟩
    all_goals
      have hne : q ≠ k := fun e' => by
        unfold Blk at e
        rw [e', ho] at e
        cases e
        cases hc
      exact (World.putObj_heap_other hne).trans e
  case own =>
    rintro pre A2 B2 row ⟨⟨v, z1, z2⟩, z4, z5⟩ hgr hr
    have hrow : ∀ q, row = some q → ∃ o, A2.heap[q]? = some o ∧ o.isCells = false := fun q e => (hr q e).2
    exact ⟨⟨v, z1.grownN hgr hrow, own_grownN z2 hgr hrow⟩, z4.grown hgr z4.size (fun k e => Nat.le_trans hbw2.size (hr k e).1), Nat.le_trans z5 hgr.size⟩
  case step =>
    exact fun x A B row hs hg hr => hs
  case assign =>
    intro k x W K hK
    unfold encF
    gi_wp2
    exact hK
  case body =>
    rintro lp pre x W ⟨⟨v, q1, q2⟩, q4, q5⟩ ⟨hx1, hx2, hx3⟩
    have hxp := (h.below q4).2.2.2.2.1 x hx3
    obtain ⟨p1, p2, p3, p4⟩ := hxp
    have hMs := (h.below q4).2.2.2.1
    have hpl : pre.length ≤ 100000 := by
      have := congrArg List.length hx1
      rw [List.length_take, srtF_len, namesF_len] at this
      omega
    obtain ⟨Av, nv, cv, rfl⟩ := own_sliceN q2
    clear hx1 hx2 h1 h2 hs hl hL0 hL2 hb0 hb1 hk2
    have c1 : W.drew.cell? ⟨w.heap.size, 0, none⟩ = some (.slice Av nv cv) := q1.cell 0
    have c1' : (W.drew.alloc (.cells #[.string x.name, .string ⟨x.b.toArray⟩, .int .i64 x.sy] 27)).cell? ⟨w.heap.size, 0, none⟩ = some (.slice Av nv cv) := (q1.alloc _).cell 0
    have c1'' : (W.alloc (.cells #[.string x.name, .string ⟨x.b.toArray⟩, .int .i64 x.sy] 27)).cell? ⟨w.heap.size, 0, none⟩ = some (.slice Av nv cv) := (q1.alloc _).cell 0
    have c2 : W.drew.cell? ⟨x.p, 0, none⟩ = some (.slice x.A x.n x.c) := p1.cell 0
    have c3 : W.drew.cell? ⟨x.p, 1, none⟩ = some (.int .i64 x.sy) := p1.cell 1
    have hcv := run_bytes_str (P := Try.prog) 35 9 5 Try.underlying35 Try.underlying5 Try.underlying9 (show Reads W.drew W.drew.heap.size 1 x.A x.n (bvs x.b) from Reads.of_zown p3) x.c
    have hone : Reads (W.drew.alloc (.cells #[.string x.name, .string ⟨x.b.toArray⟩, .int .i64 x.sy] 27)) (W.heap.size + 1) 3 (some ⟨W.heap.size, 0, none⟩) 1 (fvs [x]) :=
      ⟨rfl, fun _ => ⟨W.heap.size, 0, rfl, by omega, fun j u hu => by
        have := (Blk.new W.drew 27 #[.string x.name, .string ⟨x.b.toArray⟩, .int .i64 x.sy]).cell j
        rw [Nat.zero_add]
        refine this.trans ?_
        rw [← hu]
        simp [fvs]⟩⟩
    have ha : W.grownBy (W.drew.alloc (.cells #[.string x.name, .string ⟨x.b.toArray⟩, .int .i64 x.sy] 27)) none := drew_alloc W _
    have hown : (W.drew.alloc (.cells #[.string x.name, .string ⟨x.b.toArray⟩, .int .i64 x.sy] 27)).ownsRow w2.heap.size 27 3 (.slice Av nv cv) pre.length (fvs pre) := q2.alloc _
    have hz1 : pre.length + 1 ≤ maxLen := by unfold maxLen; omega
    have hz2 : (pre.length + 1) * 40 ≤ 140737488355328 := by omega
    have hz3 : w2.heap.size ≤ (W.drew.alloc (.cells #[.string x.name, .string ⟨x.b.toArray⟩, .int .i64 x.sy] 27)).heap.size := Nat.le_trans q5 ha.size
    gi_wp2_with fail
    refine wpIn_region_plain (R := fun _ W' => KeepsFrom w2.heap.size W W' ∧ KeepsT r W W' ∧ (∃ v', Blk W' w.heap.size 24 #[v'] ∧ W'.ownsRow w2.heap.size 27 3 v' (pre.length + 1) (fvs pre ++ fvs [x])) ∧ Below w.heap.size w W' ∧ w2.heap.size ≤ W'.heap.size) (by kernel_rfl) (by kernel_rfl) ?hR ?hwalk
    case hR =>
      rintro a W' ⟨h1, h2, ⟨v', h3, h4⟩, h5, h6⟩
      exact ⟨h1, h2, ⟨v', h3, by rw [List.length_append, fvs_append]; exact h4⟩, h5, h6⟩
    case hwalk =>
      refine wpAny_take (i := 1) (v := ?_) rfl (by kernel_rfl) (by kernel_rfl) (by kernel_rfl) (fun _ _ _ h => onNormal_panic h) (Or.inl ⟨by rfl, ?hy⟩) ?_
      case hy => (intro w; go_simp; all_goals with_reducible rfl)
      refine wpAny_take (i := 2) (v := ?_) rfl (by kernel_rfl) (by kernel_rfl) (by kernel_rfl) (fun _ _ _ h => onNormal_panic h) (Or.inl ⟨by rfl, ?hy⟩) ?_
      case hy => (intro w; go_simp; all_goals with_reducible rfl)
      refine wpAny_take (i := 3) (v := ?_) rfl (by kernel_rfl) (by kernel_rfl) (by kernel_rfl) (fun _ _ _ h => onNormal_panic h) (Or.inl ⟨by rfl, ?hy⟩) ?_
      case hy => (intro w; go_simp; all_goals with_reducible rfl)
      refine wpAny_take (i := 4) (v := ?_) rfl (by kernel_rfl) (by kernel_rfl) (by kernel_rfl) (fun _ _ _ h => onNormal_panic h) (Or.inl ⟨by rfl, ?hy⟩) ?_
      case hy => (intro w; go_simp; all_goals with_reducible rfl)
      refine wpAny_take (i := 7) (v := ?_) rfl (by kernel_rfl) (by kernel_rfl) (by kernel_rfl) (fun _ _ _ h => onNormal_panic h) (Or.inl ⟨by rfl, ?hy⟩) ?_
      case hy => (intro w; go_simp; all_goals with_reducible rfl)
      refine wpAny_take (i := 8) (v := ?_) rfl (by kernel_rfl) (by kernel_rfl) (by kernel_rfl) (fun _ _ _ h => onNormal_panic h) (Or.inl ⟨by rfl, ?hy⟩) ?_
      case hy => (intro w; go_simp; all_goals with_reducible rfl)
      refine wpAny_take (i := 9) (v := ?_) rfl (by kernel_rfl) (by kernel_rfl) (by kernel_rfl) (fun _ _ _ h => onNormal_panic h) (Or.inl ⟨by rfl, ?hy⟩) ?_
      case hy => (intro w; go_simp; all_goals with_reducible rfl)
      refine wpAny_ready (rs := [0, 5, 10]) (by kernel_rfl) (by simp) (AllReady.cons rfl (fun K hK => ?_) (AllReady.cons rfl (fun K hK => ?_) (AllReady.cons rfl (fun K hK => ?_) AllReady.nil)))
      · go_simp
        refine hK _ _ ?_
        clear hK K
        refine wpAny_ready (rs := [5, 10]) (by kernel_rfl) (by simp) (AllReady.cons rfl (fun K hK => ?_) (AllReady.cons rfl (fun K hK => ?_) AllReady.nil))
        · go_simp
          refine hK _ _ ?_
          clear hK K
          refine wpAny_ready (rs := [6, 10]) (by kernel_rfl) (by simp) (AllReady.cons rfl (fun K hK => ?_) (AllReady.cons rfl (fun K hK => ?_) AllReady.nil))
          · go_simp
            refine hK _ _ ?_
            clear hK K
            refine wpAny_ready (rs := [10]) (by kernel_rfl) (by simp) (AllReady.cons rfl (fun K hK => ?_) AllReady.nil)
            · go_simp
              refine hK _ _ ?_
              clear hK K
              refine wpAny_take (i := 11) (v := ?_) rfl (by kernel_rfl) (by kernel_rfl) (by kernel_rfl) (fun _ _ _ h => onNormal_panic h) (Or.inl ⟨by rfl, ?hy⟩) ?_
              case hy => (intro w; go_simp; all_goals with_reducible rfl)
              refine wpAny_ready (rs := [12]) (by kernel_rfl) (by simp) (AllReady.cons rfl (fun K hK => ?_) AllReady.nil)
              · go_simp
                refine hK _ _ ?_
                clear hK K
                refine wpAny_ready (rs := [13]) (by kernel_rfl) (by simp) (AllReady.cons rfl (fun K hK => ?_) AllReady.nil)
                · refine step_appendX (o := ⟨some 23, _, _, _, _, _⟩) (by rfl) (.tmp 10) (.tmp 22) 24 (by rfl) file_ok Try.underlying24 hown (by rfl) hone (by rfl) (fvs_one [x]) hz1 hz2 hz3 (fun v6 w6 hown6 hb6 hg6 hv6 => ?_); obtain ⟨A6, n6, d6, rfl⟩ := own_sliceN hown6; have c6 := (files_cell q1 q2 ha hg6).cell 0; rw [show (#[Value.slice Av nv cv] : Array Value)[0]? = some (.slice Av nv cv) from rfl] at c6; have f6 := (files_cell q1 q2 ha hg6).frozen 0
                  refine hK _ _ ?_
                  clear hK K
                  refine wpAny_ready (rs := [14]) (by kernel_rfl) (by simp) (AllReady.cons rfl (fun K hK => ?_) AllReady.nil)
                  · go_simp
                    refine hK _ _ ?_
                    clear hK K
                    refine wpAny_done (by kernel_rfl) ⟨rfl, ?_⟩ _
                    exact files_leaf q1 q2 q4 q5 hMs rfl hbw2.size ha hg6 hown6 hv6
          · go_simp
            refine hK _ _ ?_
            clear hK K
            refine wpAny_ready (rs := [6]) (by kernel_rfl) (by simp) (AllReady.cons rfl (fun K hK => ?_) AllReady.nil)
            · go_simp
              refine hK _ _ ?_
              clear hK K
              refine wpAny_take (i := 11) (v := ?_) rfl (by kernel_rfl) (by kernel_rfl) (by kernel_rfl) (fun _ _ _ h => onNormal_panic h) (Or.inl ⟨by rfl, ?hy⟩) ?_
              case hy => (intro w; go_simp; all_goals with_reducible rfl)
              refine wpAny_ready (rs := [12]) (by kernel_rfl) (by simp) (AllReady.cons rfl (fun K hK => ?_) AllReady.nil)
              · go_simp
                refine hK _ _ ?_
                clear hK K
                refine wpAny_ready (rs := [13]) (by kernel_rfl) (by simp) (AllReady.cons rfl (fun K hK => ?_) AllReady.nil)
                · refine step_appendX (o := ⟨some 23, _, _, _, _, _⟩) (by rfl) (.tmp 10) (.tmp 22) 24 (by rfl) file_ok Try.underlying24 hown (by rfl) hone (by rfl) (fvs_one [x]) hz1 hz2 hz3 (fun v6 w6 hown6 hb6 hg6 hv6 => ?_); obtain ⟨A6, n6, d6, rfl⟩ := own_sliceN hown6; have c6 := (files_cell q1 q2 ha hg6).cell 0; rw [show (#[Value.slice Av nv cv] : Array Value)[0]? = some (.slice Av nv cv) from rfl] at c6; have f6 := (files_cell q1 q2 ha hg6).frozen 0
                  refine hK _ _ ?_
                  clear hK K
                  refine wpAny_ready (rs := [14]) (by kernel_rfl) (by simp) (AllReady.cons rfl (fun K hK => ?_) AllReady.nil)
                  · go_simp
                    refine hK _ _ ?_
                    clear hK K
                    refine wpAny_done (by kernel_rfl) ⟨rfl, ?_⟩ _
                    exact files_leaf q1 q2 q4 q5 hMs rfl hbw2.size ha hg6 hown6 hv6
        · go_simp
          refine hK _ _ ?_
          clear hK K
          refine wpAny_ready (rs := [5]) (by kernel_rfl) (by simp) (AllReady.cons rfl (fun K hK => ?_) AllReady.nil)
          · go_simp
            refine hK _ _ ?_
            clear hK K
            refine wpAny_ready (rs := [6]) (by kernel_rfl) (by simp) (AllReady.cons rfl (fun K hK => ?_) AllReady.nil)
            · go_simp
              refine hK _ _ ?_
              clear hK K
              refine wpAny_take (i := 11) (v := ?_) rfl (by kernel_rfl) (by kernel_rfl) (by kernel_rfl) (fun _ _ _ h => onNormal_panic h) (Or.inl ⟨by rfl, ?hy⟩) ?_
              case hy => (intro w; go_simp; all_goals with_reducible rfl)
              refine wpAny_ready (rs := [12]) (by kernel_rfl) (by simp) (AllReady.cons rfl (fun K hK => ?_) AllReady.nil)
              · go_simp
                refine hK _ _ ?_
                clear hK K
                refine wpAny_ready (rs := [13]) (by kernel_rfl) (by simp) (AllReady.cons rfl (fun K hK => ?_) AllReady.nil)
                · refine step_appendX (o := ⟨some 23, _, _, _, _, _⟩) (by rfl) (.tmp 10) (.tmp 22) 24 (by rfl) file_ok Try.underlying24 hown (by rfl) hone (by rfl) (fvs_one [x]) hz1 hz2 hz3 (fun v6 w6 hown6 hb6 hg6 hv6 => ?_); obtain ⟨A6, n6, d6, rfl⟩ := own_sliceN hown6; have c6 := (files_cell q1 q2 ha hg6).cell 0; rw [show (#[Value.slice Av nv cv] : Array Value)[0]? = some (.slice Av nv cv) from rfl] at c6; have f6 := (files_cell q1 q2 ha hg6).frozen 0
                  refine hK _ _ ?_
                  clear hK K
                  refine wpAny_ready (rs := [14]) (by kernel_rfl) (by simp) (AllReady.cons rfl (fun K hK => ?_) AllReady.nil)
                  · go_simp
                    refine hK _ _ ?_
                    clear hK K
                    refine wpAny_done (by kernel_rfl) ⟨rfl, ?_⟩ _
                    exact files_leaf q1 q2 q4 q5 hMs rfl hbw2.size ha hg6 hown6 hv6
      · go_simp
        refine hK _ _ ?_
        clear hK K
        refine wpAny_ready (rs := [0, 6, 10]) (by kernel_rfl) (by simp) (AllReady.cons rfl (fun K hK => ?_) (AllReady.cons rfl (fun K hK => ?_) (AllReady.cons rfl (fun K hK => ?_) AllReady.nil)))
        · go_simp
          refine hK _ _ ?_
          clear hK K
          refine wpAny_ready (rs := [6, 10]) (by kernel_rfl) (by simp) (AllReady.cons rfl (fun K hK => ?_) (AllReady.cons rfl (fun K hK => ?_) AllReady.nil))
          · go_simp
            refine hK _ _ ?_
            clear hK K
            refine wpAny_ready (rs := [10]) (by kernel_rfl) (by simp) (AllReady.cons rfl (fun K hK => ?_) AllReady.nil)
            · go_simp
              refine hK _ _ ?_
              clear hK K
              refine wpAny_take (i := 11) (v := ?_) rfl (by kernel_rfl) (by kernel_rfl) (by kernel_rfl) (fun _ _ _ h => onNormal_panic h) (Or.inl ⟨by rfl, ?hy⟩) ?_
              case hy => (intro w; go_simp; all_goals with_reducible rfl)
              refine wpAny_ready (rs := [12]) (by kernel_rfl) (by simp) (AllReady.cons rfl (fun K hK => ?_) AllReady.nil)
              · go_simp
                refine hK _ _ ?_
                clear hK K
                refine wpAny_ready (rs := [13]) (by kernel_rfl) (by simp) (AllReady.cons rfl (fun K hK => ?_) AllReady.nil)
                · refine step_appendX (o := ⟨some 23, _, _, _, _, _⟩) (by rfl) (.tmp 10) (.tmp 22) 24 (by rfl) file_ok Try.underlying24 hown (by rfl) hone (by rfl) (fvs_one [x]) hz1 hz2 hz3 (fun v6 w6 hown6 hb6 hg6 hv6 => ?_); obtain ⟨A6, n6, d6, rfl⟩ := own_sliceN hown6; have c6 := (files_cell q1 q2 ha hg6).cell 0; rw [show (#[Value.slice Av nv cv] : Array Value)[0]? = some (.slice Av nv cv) from rfl] at c6; have f6 := (files_cell q1 q2 ha hg6).frozen 0
                  refine hK _ _ ?_
                  clear hK K
                  refine wpAny_ready (rs := [14]) (by kernel_rfl) (by simp) (AllReady.cons rfl (fun K hK => ?_) AllReady.nil)
                  · go_simp
                    refine hK _ _ ?_
                    clear hK K
                    refine wpAny_done (by kernel_rfl) ⟨rfl, ?_⟩ _
                    exact files_leaf q1 q2 q4 q5 hMs rfl hbw2.size ha hg6 hown6 hv6
          · go_simp
            refine hK _ _ ?_
            clear hK K
            refine wpAny_ready (rs := [6]) (by kernel_rfl) (by simp) (AllReady.cons rfl (fun K hK => ?_) AllReady.nil)
            · go_simp
              refine hK _ _ ?_
              clear hK K
              refine wpAny_take (i := 11) (v := ?_) rfl (by kernel_rfl) (by kernel_rfl) (by kernel_rfl) (fun _ _ _ h => onNormal_panic h) (Or.inl ⟨by rfl, ?hy⟩) ?_
              case hy => (intro w; go_simp; all_goals with_reducible rfl)
              refine wpAny_ready (rs := [12]) (by kernel_rfl) (by simp) (AllReady.cons rfl (fun K hK => ?_) AllReady.nil)
              · go_simp
                refine hK _ _ ?_
                clear hK K
                refine wpAny_ready (rs := [13]) (by kernel_rfl) (by simp) (AllReady.cons rfl (fun K hK => ?_) AllReady.nil)
                · refine step_appendX (o := ⟨some 23, _, _, _, _, _⟩) (by rfl) (.tmp 10) (.tmp 22) 24 (by rfl) file_ok Try.underlying24 hown (by rfl) hone (by rfl) (fvs_one [x]) hz1 hz2 hz3 (fun v6 w6 hown6 hb6 hg6 hv6 => ?_); obtain ⟨A6, n6, d6, rfl⟩ := own_sliceN hown6; have c6 := (files_cell q1 q2 ha hg6).cell 0; rw [show (#[Value.slice Av nv cv] : Array Value)[0]? = some (.slice Av nv cv) from rfl] at c6; have f6 := (files_cell q1 q2 ha hg6).frozen 0
                  refine hK _ _ ?_
                  clear hK K
                  refine wpAny_ready (rs := [14]) (by kernel_rfl) (by simp) (AllReady.cons rfl (fun K hK => ?_) AllReady.nil)
                  · go_simp
                    refine hK _ _ ?_
                    clear hK K
                    refine wpAny_done (by kernel_rfl) ⟨rfl, ?_⟩ _
                    exact files_leaf q1 q2 q4 q5 hMs rfl hbw2.size ha hg6 hown6 hv6
        · go_simp
          refine hK _ _ ?_
          clear hK K
          refine wpAny_ready (rs := [0, 10]) (by kernel_rfl) (by simp) (AllReady.cons rfl (fun K hK => ?_) (AllReady.cons rfl (fun K hK => ?_) AllReady.nil))
          · go_simp
            refine hK _ _ ?_
            clear hK K
            refine wpAny_ready (rs := [10]) (by kernel_rfl) (by simp) (AllReady.cons rfl (fun K hK => ?_) AllReady.nil)
            · go_simp
              refine hK _ _ ?_
              clear hK K
              refine wpAny_take (i := 11) (v := ?_) rfl (by kernel_rfl) (by kernel_rfl) (by kernel_rfl) (fun _ _ _ h => onNormal_panic h) (Or.inl ⟨by rfl, ?hy⟩) ?_
              case hy => (intro w; go_simp; all_goals with_reducible rfl)
              refine wpAny_ready (rs := [12]) (by kernel_rfl) (by simp) (AllReady.cons rfl (fun K hK => ?_) AllReady.nil)
              · go_simp
                refine hK _ _ ?_
                clear hK K
                refine wpAny_ready (rs := [13]) (by kernel_rfl) (by simp) (AllReady.cons rfl (fun K hK => ?_) AllReady.nil)
                · refine step_appendX (o := ⟨some 23, _, _, _, _, _⟩) (by rfl) (.tmp 10) (.tmp 22) 24 (by rfl) file_ok Try.underlying24 hown (by rfl) hone (by rfl) (fvs_one [x]) hz1 hz2 hz3 (fun v6 w6 hown6 hb6 hg6 hv6 => ?_); obtain ⟨A6, n6, d6, rfl⟩ := own_sliceN hown6; have c6 := (files_cell q1 q2 ha hg6).cell 0; rw [show (#[Value.slice Av nv cv] : Array Value)[0]? = some (.slice Av nv cv) from rfl] at c6; have f6 := (files_cell q1 q2 ha hg6).frozen 0
                  refine hK _ _ ?_
                  clear hK K
                  refine wpAny_ready (rs := [14]) (by kernel_rfl) (by simp) (AllReady.cons rfl (fun K hK => ?_) AllReady.nil)
                  · go_simp
                    refine hK _ _ ?_
                    clear hK K
                    refine wpAny_done (by kernel_rfl) ⟨rfl, ?_⟩ _
                    exact files_leaf q1 q2 q4 q5 hMs rfl hbw2.size ha hg6 hown6 hv6
          · go_simp
            refine hK _ _ ?_
            clear hK K
            refine wpAny_take (i := 11) (v := ?_) rfl (by kernel_rfl) (by kernel_rfl) (by kernel_rfl) (fun _ _ _ h => onNormal_panic h) (Or.inl ⟨by rfl, ?hy⟩) ?_
            case hy => (intro w; go_simp; all_goals with_reducible rfl)
            refine wpAny_ready (rs := [0, 12]) (by kernel_rfl) (by simp) (AllReady.cons rfl (fun K hK => ?_) (AllReady.cons rfl (fun K hK => ?_) AllReady.nil))
            · go_simp
              refine hK _ _ ?_
              clear hK K
              refine wpAny_ready (rs := [12]) (by kernel_rfl) (by simp) (AllReady.cons rfl (fun K hK => ?_) AllReady.nil)
              · go_simp
                refine hK _ _ ?_
                clear hK K
                refine wpAny_ready (rs := [13]) (by kernel_rfl) (by simp) (AllReady.cons rfl (fun K hK => ?_) AllReady.nil)
                · refine step_appendX (o := ⟨some 23, _, _, _, _, _⟩) (by rfl) (.tmp 10) (.tmp 22) 24 (by rfl) file_ok Try.underlying24 hown (by rfl) hone (by rfl) (fvs_one [x]) hz1 hz2 hz3 (fun v6 w6 hown6 hb6 hg6 hv6 => ?_); obtain ⟨A6, n6, d6, rfl⟩ := own_sliceN hown6; have c6 := (files_cell q1 q2 ha hg6).cell 0; rw [show (#[Value.slice Av nv cv] : Array Value)[0]? = some (.slice Av nv cv) from rfl] at c6; have f6 := (files_cell q1 q2 ha hg6).frozen 0
                  refine hK _ _ ?_
                  clear hK K
                  refine wpAny_ready (rs := [14]) (by kernel_rfl) (by simp) (AllReady.cons rfl (fun K hK => ?_) AllReady.nil)
                  · go_simp
                    refine hK _ _ ?_
                    clear hK K
                    refine wpAny_done (by kernel_rfl) ⟨rfl, ?_⟩ _
                    exact files_leaf q1 q2 q4 q5 hMs rfl hbw2.size ha hg6 hown6 hv6
            · go_simp
              refine hK _ _ ?_
              clear hK K
              refine wpAny_ready (rs := [0]) (by kernel_rfl) (by simp) (AllReady.cons rfl (fun K hK => ?_) AllReady.nil)
              · go_simp
                refine hK _ _ ?_
                clear hK K
                refine wpAny_ready (rs := [13]) (by kernel_rfl) (by simp) (AllReady.cons rfl (fun K hK => ?_) AllReady.nil)
                · refine step_appendX (o := ⟨some 23, _, _, _, _, _⟩) (by rfl) (.tmp 10) (.tmp 22) 24 (by rfl) file_ok Try.underlying24 hown (by rfl) hone (by rfl) (fvs_one [x]) hz1 hz2 hz3 (fun v6 w6 hown6 hb6 hg6 hv6 => ?_); obtain ⟨A6, n6, d6, rfl⟩ := own_sliceN hown6; have c6 := (files_cell q1 q2 ha hg6).cell 0; rw [show (#[Value.slice Av nv cv] : Array Value)[0]? = some (.slice Av nv cv) from rfl] at c6; have f6 := (files_cell q1 q2 ha hg6).frozen 0
                  refine hK _ _ ?_
                  clear hK K
                  refine wpAny_ready (rs := [14]) (by kernel_rfl) (by simp) (AllReady.cons rfl (fun K hK => ?_) AllReady.nil)
                  · go_simp
                    refine hK _ _ ?_
                    clear hK K
                    refine wpAny_done (by kernel_rfl) ⟨rfl, ?_⟩ _
                    exact files_leaf q1 q2 q4 q5 hMs rfl hbw2.size ha hg6 hown6 hv6
        · go_simp
          refine hK _ _ ?_
          clear hK K
          refine wpAny_ready (rs := [0, 6]) (by kernel_rfl) (by simp) (AllReady.cons rfl (fun K hK => ?_) (AllReady.cons rfl (fun K hK => ?_) AllReady.nil))
          · go_simp
            refine hK _ _ ?_
            clear hK K
            refine wpAny_ready (rs := [6]) (by kernel_rfl) (by simp) (AllReady.cons rfl (fun K hK => ?_) AllReady.nil)
            · go_simp
              refine hK _ _ ?_
              clear hK K
              refine wpAny_take (i := 11) (v := ?_) rfl (by kernel_rfl) (by kernel_rfl) (by kernel_rfl) (fun _ _ _ h => onNormal_panic h) (Or.inl ⟨by rfl, ?hy⟩) ?_
              case hy => (intro w; go_simp; all_goals with_reducible rfl)
              refine wpAny_ready (rs := [12]) (by kernel_rfl) (by simp) (AllReady.cons rfl (fun K hK => ?_) AllReady.nil)
              · go_simp
                refine hK _ _ ?_
                clear hK K
                refine wpAny_ready (rs := [13]) (by kernel_rfl) (by simp) (AllReady.cons rfl (fun K hK => ?_) AllReady.nil)
                · refine step_appendX (o := ⟨some 23, _, _, _, _, _⟩) (by rfl) (.tmp 10) (.tmp 22) 24 (by rfl) file_ok Try.underlying24 hown (by rfl) hone (by rfl) (fvs_one [x]) hz1 hz2 hz3 (fun v6 w6 hown6 hb6 hg6 hv6 => ?_); obtain ⟨A6, n6, d6, rfl⟩ := own_sliceN hown6; have c6 := (files_cell q1 q2 ha hg6).cell 0; rw [show (#[Value.slice Av nv cv] : Array Value)[0]? = some (.slice Av nv cv) from rfl] at c6; have f6 := (files_cell q1 q2 ha hg6).frozen 0
                  refine hK _ _ ?_
                  clear hK K
                  refine wpAny_ready (rs := [14]) (by kernel_rfl) (by simp) (AllReady.cons rfl (fun K hK => ?_) AllReady.nil)
                  · go_simp
                    refine hK _ _ ?_
                    clear hK K
                    refine wpAny_done (by kernel_rfl) ⟨rfl, ?_⟩ _
                    exact files_leaf q1 q2 q4 q5 hMs rfl hbw2.size ha hg6 hown6 hv6
          · go_simp
            refine hK _ _ ?_
            clear hK K
            refine wpAny_take (i := 11) (v := ?_) rfl (by kernel_rfl) (by kernel_rfl) (by kernel_rfl) (fun _ _ _ h => onNormal_panic h) (Or.inl ⟨by rfl, ?hy⟩) ?_
            case hy => (intro w; go_simp; all_goals with_reducible rfl)
            refine wpAny_ready (rs := [0, 12]) (by kernel_rfl) (by simp) (AllReady.cons rfl (fun K hK => ?_) (AllReady.cons rfl (fun K hK => ?_) AllReady.nil))
            · go_simp
              refine hK _ _ ?_
              clear hK K
              refine wpAny_ready (rs := [12]) (by kernel_rfl) (by simp) (AllReady.cons rfl (fun K hK => ?_) AllReady.nil)
              · go_simp
                refine hK _ _ ?_
                clear hK K
                refine wpAny_ready (rs := [13]) (by kernel_rfl) (by simp) (AllReady.cons rfl (fun K hK => ?_) AllReady.nil)
                · refine step_appendX (o := ⟨some 23, _, _, _, _, _⟩) (by rfl) (.tmp 10) (.tmp 22) 24 (by rfl) file_ok Try.underlying24 hown (by rfl) hone (by rfl) (fvs_one [x]) hz1 hz2 hz3 (fun v6 w6 hown6 hb6 hg6 hv6 => ?_); obtain ⟨A6, n6, d6, rfl⟩ := own_sliceN hown6; have c6 := (files_cell q1 q2 ha hg6).cell 0; rw [show (#[Value.slice Av nv cv] : Array Value)[0]? = some (.slice Av nv cv) from rfl] at c6; have f6 := (files_cell q1 q2 ha hg6).frozen 0
                  refine hK _ _ ?_
                  clear hK K
                  refine wpAny_ready (rs := [14]) (by kernel_rfl) (by simp) (AllReady.cons rfl (fun K hK => ?_) AllReady.nil)
                  · go_simp
                    refine hK _ _ ?_
                    clear hK K
                    refine wpAny_done (by kernel_rfl) ⟨rfl, ?_⟩ _
                    exact files_leaf q1 q2 q4 q5 hMs rfl hbw2.size ha hg6 hown6 hv6
            · go_simp
              refine hK _ _ ?_
              clear hK K
              refine wpAny_ready (rs := [0]) (by kernel_rfl) (by simp) (AllReady.cons rfl (fun K hK => ?_) AllReady.nil)
              · go_simp
                refine hK _ _ ?_
                clear hK K
                refine wpAny_ready (rs := [13]) (by kernel_rfl) (by simp) (AllReady.cons rfl (fun K hK => ?_) AllReady.nil)
                · refine step_appendX (o := ⟨some 23, _, _, _, _, _⟩) (by rfl) (.tmp 10) (.tmp 22) 24 (by rfl) file_ok Try.underlying24 hown (by rfl) hone (by rfl) (fvs_one [x]) hz1 hz2 hz3 (fun v6 w6 hown6 hb6 hg6 hv6 => ?_); obtain ⟨A6, n6, d6, rfl⟩ := own_sliceN hown6; have c6 := (files_cell q1 q2 ha hg6).cell 0; rw [show (#[Value.slice Av nv cv] : Array Value)[0]? = some (.slice Av nv cv) from rfl] at c6; have f6 := (files_cell q1 q2 ha hg6).frozen 0
                  refine hK _ _ ?_
                  clear hK K
                  refine wpAny_ready (rs := [14]) (by kernel_rfl) (by simp) (AllReady.cons rfl (fun K hK => ?_) AllReady.nil)
                  · go_simp
                    refine hK _ _ ?_
                    clear hK K
                    refine wpAny_done (by kernel_rfl) ⟨rfl, ?_⟩ _
                    exact files_leaf q1 q2 q4 q5 hMs rfl hbw2.size ha hg6 hown6 hv6
      · go_simp
        refine hK _ _ ?_
        clear hK K
        refine wpAny_ready (rs := [0, 5]) (by kernel_rfl) (by simp) (AllReady.cons rfl (fun K hK => ?_) (AllReady.cons rfl (fun K hK => ?_) AllReady.nil))
        · go_simp
          refine hK _ _ ?_
          clear hK K
          refine wpAny_ready (rs := [5]) (by kernel_rfl) (by simp) (AllReady.cons rfl (fun K hK => ?_) AllReady.nil)
          · go_simp
            refine hK _ _ ?_
            clear hK K
            refine wpAny_ready (rs := [6]) (by kernel_rfl) (by simp) (AllReady.cons rfl (fun K hK => ?_) AllReady.nil)
            · go_simp
              refine hK _ _ ?_
              clear hK K
              refine wpAny_take (i := 11) (v := ?_) rfl (by kernel_rfl) (by kernel_rfl) (by kernel_rfl) (fun _ _ _ h => onNormal_panic h) (Or.inl ⟨by rfl, ?hy⟩) ?_
              case hy => (intro w; go_simp; all_goals with_reducible rfl)
              refine wpAny_ready (rs := [12]) (by kernel_rfl) (by simp) (AllReady.cons rfl (fun K hK => ?_) AllReady.nil)
              · go_simp
                refine hK _ _ ?_
                clear hK K
                refine wpAny_ready (rs := [13]) (by kernel_rfl) (by simp) (AllReady.cons rfl (fun K hK => ?_) AllReady.nil)
                · refine step_appendX (o := ⟨some 23, _, _, _, _, _⟩) (by rfl) (.tmp 10) (.tmp 22) 24 (by rfl) file_ok Try.underlying24 hown (by rfl) hone (by rfl) (fvs_one [x]) hz1 hz2 hz3 (fun v6 w6 hown6 hb6 hg6 hv6 => ?_); obtain ⟨A6, n6, d6, rfl⟩ := own_sliceN hown6; have c6 := (files_cell q1 q2 ha hg6).cell 0; rw [show (#[Value.slice Av nv cv] : Array Value)[0]? = some (.slice Av nv cv) from rfl] at c6; have f6 := (files_cell q1 q2 ha hg6).frozen 0
                  refine hK _ _ ?_
                  clear hK K
                  refine wpAny_ready (rs := [14]) (by kernel_rfl) (by simp) (AllReady.cons rfl (fun K hK => ?_) AllReady.nil)
                  · go_simp
                    refine hK _ _ ?_
                    clear hK K
                    refine wpAny_done (by kernel_rfl) ⟨rfl, ?_⟩ _
                    exact files_leaf q1 q2 q4 q5 hMs rfl hbw2.size ha hg6 hown6 hv6
        · go_simp
          refine hK _ _ ?_
          clear hK K
          refine wpAny_ready (rs := [0, 6]) (by kernel_rfl) (by simp) (AllReady.cons rfl (fun K hK => ?_) (AllReady.cons rfl (fun K hK => ?_) AllReady.nil))
          · go_simp
            refine hK _ _ ?_
            clear hK K
            refine wpAny_ready (rs := [6]) (by kernel_rfl) (by simp) (AllReady.cons rfl (fun K hK => ?_) AllReady.nil)
            · go_simp
              refine hK _ _ ?_
              clear hK K
              refine wpAny_take (i := 11) (v := ?_) rfl (by kernel_rfl) (by kernel_rfl) (by kernel_rfl) (fun _ _ _ h => onNormal_panic h) (Or.inl ⟨by rfl, ?hy⟩) ?_
              case hy => (intro w; go_simp; all_goals with_reducible rfl)
              refine wpAny_ready (rs := [12]) (by kernel_rfl) (by simp) (AllReady.cons rfl (fun K hK => ?_) AllReady.nil)
              · go_simp
                refine hK _ _ ?_
                clear hK K
                refine wpAny_ready (rs := [13]) (by kernel_rfl) (by simp) (AllReady.cons rfl (fun K hK => ?_) AllReady.nil)
                · refine step_appendX (o := ⟨some 23, _, _, _, _, _⟩) (by rfl) (.tmp 10) (.tmp 22) 24 (by rfl) file_ok Try.underlying24 hown (by rfl) hone (by rfl) (fvs_one [x]) hz1 hz2 hz3 (fun v6 w6 hown6 hb6 hg6 hv6 => ?_); obtain ⟨A6, n6, d6, rfl⟩ := own_sliceN hown6; have c6 := (files_cell q1 q2 ha hg6).cell 0; rw [show (#[Value.slice Av nv cv] : Array Value)[0]? = some (.slice Av nv cv) from rfl] at c6; have f6 := (files_cell q1 q2 ha hg6).frozen 0
                  refine hK _ _ ?_
                  clear hK K
                  refine wpAny_ready (rs := [14]) (by kernel_rfl) (by simp) (AllReady.cons rfl (fun K hK => ?_) AllReady.nil)
                  · go_simp
                    refine hK _ _ ?_
                    clear hK K
                    refine wpAny_done (by kernel_rfl) ⟨rfl, ?_⟩ _
                    exact files_leaf q1 q2 q4 q5 hMs rfl hbw2.size ha hg6 hown6 hv6
          · go_simp
            refine hK _ _ ?_
            clear hK K
            refine wpAny_take (i := 11) (v := ?_) rfl (by kernel_rfl) (by kernel_rfl) (by kernel_rfl) (fun _ _ _ h => onNormal_panic h) (Or.inl ⟨by rfl, ?hy⟩) ?_
            case hy => (intro w; go_simp; all_goals with_reducible rfl)
            refine wpAny_ready (rs := [0, 12]) (by kernel_rfl) (by simp) (AllReady.cons rfl (fun K hK => ?_) (AllReady.cons rfl (fun K hK => ?_) AllReady.nil))
            · go_simp
              refine hK _ _ ?_
              clear hK K
              refine wpAny_ready (rs := [12]) (by kernel_rfl) (by simp) (AllReady.cons rfl (fun K hK => ?_) AllReady.nil)
              · go_simp
                refine hK _ _ ?_
                clear hK K
                refine wpAny_ready (rs := [13]) (by kernel_rfl) (by simp) (AllReady.cons rfl (fun K hK => ?_) AllReady.nil)
                · refine step_appendX (o := ⟨some 23, _, _, _, _, _⟩) (by rfl) (.tmp 10) (.tmp 22) 24 (by rfl) file_ok Try.underlying24 hown (by rfl) hone (by rfl) (fvs_one [x]) hz1 hz2 hz3 (fun v6 w6 hown6 hb6 hg6 hv6 => ?_); obtain ⟨A6, n6, d6, rfl⟩ := own_sliceN hown6; have c6 := (files_cell q1 q2 ha hg6).cell 0; rw [show (#[Value.slice Av nv cv] : Array Value)[0]? = some (.slice Av nv cv) from rfl] at c6; have f6 := (files_cell q1 q2 ha hg6).frozen 0
                  refine hK _ _ ?_
                  clear hK K
                  refine wpAny_ready (rs := [14]) (by kernel_rfl) (by simp) (AllReady.cons rfl (fun K hK => ?_) AllReady.nil)
                  · go_simp
                    refine hK _ _ ?_
                    clear hK K
                    refine wpAny_done (by kernel_rfl) ⟨rfl, ?_⟩ _
                    exact files_leaf q1 q2 q4 q5 hMs rfl hbw2.size ha hg6 hown6 hv6
            · go_simp
              refine hK _ _ ?_
              clear hK K
              refine wpAny_ready (rs := [0]) (by kernel_rfl) (by simp) (AllReady.cons rfl (fun K hK => ?_) AllReady.nil)
              · go_simp
                refine hK _ _ ?_
                clear hK K
                refine wpAny_ready (rs := [13]) (by kernel_rfl) (by simp) (AllReady.cons rfl (fun K hK => ?_) AllReady.nil)
                · refine step_appendX (o := ⟨some 23, _, _, _, _, _⟩) (by rfl) (.tmp 10) (.tmp 22) 24 (by rfl) file_ok Try.underlying24 hown (by rfl) hone (by rfl) (fvs_one [x]) hz1 hz2 hz3 (fun v6 w6 hown6 hb6 hg6 hv6 => ?_); obtain ⟨A6, n6, d6, rfl⟩ := own_sliceN hown6; have c6 := (files_cell q1 q2 ha hg6).cell 0; rw [show (#[Value.slice Av nv cv] : Array Value)[0]? = some (.slice Av nv cv) from rfl] at c6; have f6 := (files_cell q1 q2 ha hg6).frozen 0
                  refine hK _ _ ?_
                  clear hK K
                  refine wpAny_ready (rs := [14]) (by kernel_rfl) (by simp) (AllReady.cons rfl (fun K hK => ?_) AllReady.nil)
                  · go_simp
                    refine hK _ _ ?_
                    clear hK K
                    refine wpAny_done (by kernel_rfl) ⟨rfl, ?_⟩ _
                    exact files_leaf q1 q2 q4 q5 hMs rfl hbw2.size ha hg6 hown6 hv6
  case done =>
    rintro D xs W hD hS ⟨⟨v, q1, q2⟩, q4, q5⟩ hK
    subst hS
    have k1 := q1.cell 0
    rw [show (#[v] : Array Value)[0]? = some v from rfl] at k1
    have hn : (srtF fs).length = fs.length := by rw [srtF_len, namesF_len]
    rw [hn] at q2
    have hv : ∃ A n c, v = .slice A n c := by
      rcases q2.2 with ⟨e1, e2⟩ | ⟨g', cap', cur, hv, _⟩
      · exact ⟨_, _, _, e1⟩
      · exact ⟨_, _, _, hv⟩
    obtain ⟨A5, n5, c5, rfl⟩ := hv
    have HN := hide hn
    clear h h1 h2 hs hbz hl hn
    go_wp2_with fail
    have hgr := grownBy_putObj' W D (.deferred none)
    have hrw : ∀ r, some D = some r → ∃ o, W.heap[r]? = some o ∧ o.isCells = false := fun r e => by cases e; exact ⟨_, hK, rfl⟩
    refine ⟨by simp, .inl ⟨_, _, rfl, run_takeDeferred hK, ?_⟩⟩
    exact ⟨_, results_tmp rfl _ _ _, _, rfl, own_grownN (own_base3 q2 hbw2.size) hgr hrw, q4.grown hgr q4.size (fun k e => by cases e; have := hbw2.size; omega)⟩
end Go.Proofs.Ytaaaljpnhfmbpaa
