/- The walk of Scan (package frames). Conditions: those of each theorem. -/
import Derived.Test.YtbpodmgogokpiaaFrK
namespace Go.Proofs.Ytbpodmgogokpiaa
open Go.RowKit Go.Shelf
set_option linter.unusedVariables false
attribute [local go_sem] Oper.semAt_some

theorem Blk.grownN {w w' : World} {row : Option Nat} {k : Nat} {t : TypeId} {cs : Array Value} (h : Blk w k t cs) (hg : w.grownBy w' row) (hr : ∀ r, row = some r → ∃ o, w.heap[r]? = some o ∧ o.isCells = false) : Blk w' k t cs :=
  h.grown hg (fun e => by
    obtain ⟨o, ho, hc⟩ := hr k e.symm
    unfold Blk at h
    rw [h] at ho
    injection ho with ho
    subst ho
    cases hc)
theorem own_grownN {w w' : World} {row : Option Nat} {B : Nat} {e : TypeId} {v : Value} {n : Nat} {xs : List Value} (h : w.ownsRow B e 1 v n xs) (hg : w.grownBy w' row) (hr : ∀ r, row = some r → ∃ o, w.heap[r]? = some o ∧ o.isCells = false) : w'.ownsRow B e 1 v n xs := by
  obtain ⟨h1, h2⟩ := h
  refine ⟨h1, ?_⟩
  rcases h2 with h2 | ⟨g, cap, cur, rfl, b, c, d⟩
  · exact .inl h2
  · have hk : Blk w g e cur := c
    exact .inr ⟨g, cap, cur, rfl, b, hk.grownN hg hr, d⟩
theorem wpListIn_append {F : Fence} {nF : Nat} {P : Program} {ops : Array Oper} {rest : List Oper} {o : Oper} {a : Act} {Q : Exit → Act → World → Prop} {w : World} (hgd : o.guard = none) (s x : Operand) (t : TypeId)
    (ho : o.op = .call { callee := .builtin .append, args := #[s, x], argTypes := #[t, t] })
    {e : TypeId} {size bytes : Nat} {z : Value} (hE : ElemOk P e size bytes z) (ht : P.underlying t = some (.slice e))
    {base : Nat} {v : Value} {n : Nat} {xs : List Value} (hown : w.ownsRow base e size v n xs) (hs : a.eval s = v) {B : Nat} {A : Option Addr} {m c : Nat} {news : List Value} (hr : Reads w B size A m news) (hx : a.eval x = .slice A m c) (h1 : ∀ u ∈ news, u.oneCell' = true)
    (h63 : n + m ≤ maxLen) (hbytes : (n + m) * bytes ≤ 140737488355328) (hbase : base ≤ w.heap.size)
    (h : ∀ v' w', w'.ownsRow base e size v' (n + m) (xs ++ news) → Below base w w' → w.grownBy w' v.ownBlock → wpListIn F nF P ops Q rest (a.put o.dst v') w') : wpListIn F nF P ops Q (o :: rest) a w := by
  refine wpListIn_plain hgd fun K hK' => ?_
  obtain ⟨v', w', hrun, r1, r2, r3⟩ := run_append_any (P := P) t o.type e size bytes z hE ht hown (c := c) hr h1 h63 hbytes hbase
  unfold Oper.wpIn
  refine ⟨?_, ?_⟩
  · simp [Oper.about, ho, resolve, Target.leads, Sem.run_pure]
  · rw [Oper.semAt_plain F _ _ (by rw [ho]; intro c hc'; cases hc')]
    simp [execOp, ho, resolve, invoke, builtin, hs, hx, hrun, Result.andThen]
    exact hK' _ _ (h v' w' r1 (below_grown hown r2 hbase) r2)
theorem own_others {w w' : World} {B : Nat} {e : TypeId} {v : Value} {n : Nat} {xs : List Value} (h : w.ownsRow B e 1 v n xs) (hg : w.grownBy w' v.ownBlock) : KeepsOthers w w' :=
  KeepsOthers.of_grownBy hg (fun j o hj ho => by
    rcases h.2 with ⟨h2, _⟩ | ⟨g, cap, cur, hv, hb, hk, _⟩
    · subst h2; cases hj
    · subst hv
      simp [Value.ownBlock] at hj
      subst hj
      rw [hk] at ho
      injection ho with ho
      subst ho
      rfl)
/-- rows of unlike types lie apart -/
theorem own_apart {w : World} {B B' : Nat} {e e' : TypeId} {v v' : Value} {n n' : Nat} {xs xs' : List Value} (h : w.ownsRow B e 1 v n xs) (h' : w.ownsRow B' e' 1 v' n' xs') (hne : e ≠ e') (j : Nat) (hj : v.ownBlock = some j) : v'.ownBlock ≠ some j := by
  intro hj'
  rcases h.2 with ⟨h2, _⟩ | ⟨g, cap, cur, hv, hb, hk, _⟩
  · subst h2; cases hj
  · rcases h'.2 with ⟨h2, _⟩ | ⟨g', cap', cur', hv', hb', hk', _⟩
    · subst h2; cases hj'
    · subst hv hv'
      simp [Value.ownBlock] at hj hj'
      have a1 : Blk w g e cur := hk
      have a2 : Blk w g' e' cur' := hk'
      exact (a1.ne_ a2 hne) (by rw [hj, hj'])
theorem own_grownFar {w w' : World} {B : Nat} {e : TypeId} {v : Value} {n : Nat} {xs : List Value} {row : Option Nat} (h : w.ownsRow B e 1 v n xs) (hg : w.grownBy w' row) (hne : ∀ j, v.ownBlock = some j → row ≠ some j) : w'.ownsRow B e 1 v n xs := by
  obtain ⟨h1, h2⟩ := h
  refine ⟨h1, ?_⟩
  rcases h2 with h2 | ⟨g, cap, cur, rfl, b, c, d⟩
  · exact .inl h2
  · have hk : Blk w g e cur := c
    exact .inr ⟨g, cap, cur, rfl, b, hk.grown hg (fun e => hne g rfl e.symm), d⟩

theorem strs_ok : ElemOk Try.prog 22 1 24 (.slice none 0 0) := elemOk (by kernel_rfl) rfl (by decide)
/-- lists as cells -/
def lvs (ps : List SPart) : List Value := ps.map fun p => .slice p.A p.n p.c
theorem lvs_append (ps qs : List SPart) : lvs (ps ++ qs) = lvs ps ++ lvs qs := by simp [lvs]
theorem lvs_one (ps : List SPart) : ∀ u ∈ lvs ps, u.oneCell' = true := by
  intro u hu
  simp only [lvs, List.mem_map] at hu
  obtain ⟨p, _, rfl⟩ := hu
  rfl
def LOwn (w : World) (B : Nat) (v : Value) (ps : List SPart) : Prop := w.ownsRow B 22 1 v ps.length (lvs ps) ∧ ∀ p ∈ ps, RxS B p w
theorem LOwn.grownN {w w' : World} {row : Option Nat} {B : Nat} {v : Value} {ps : List SPart} (h : LOwn w B v ps) (hg : w.grownBy w' row) (hr : ∀ r, row = some r → ∃ o, w.heap[r]? = some o ∧ o.isCells = false) : LOwn w' B v ps :=
  ⟨own_grownN h.1 hg hr, fun p hp => own_grownN (h.2 p hp) hg hr⟩
theorem LOwn.below {w w' : World} {B : Nat} {v : Value} {ps : List SPart} (h : LOwn w B v ps) (hb : Below w.heap.size w w') : LOwn w' B v ps :=
  ⟨own_below h.1 hb, fun p hp => own_below (h.2 p hp) hb⟩
theorem LOwn.base {w : World} {B B' : Nat} {v : Value} {ps : List SPart} (h : LOwn w B' v ps) (hB : B ≤ B') : LOwn w B v ps :=
  ⟨own_base h.1 hB, fun p hp => own_base (h.2 p hp) hB⟩

theorem rows_any (A : Option Addr) (n c : Nat) (w : World) :
    Calls Try.prog 38 #[.slice A n c] w fun e w' => e = .returned (.func (.func 50) #[] #[.pointer (some ⟨w.heap.size, 0, none⟩)]) ∧ w' = w.alloc (.cells #[.slice A n c] 25) := by
  go_enter Try.func38, Try.ntmps38
  go_wp2_with fail
  go_ret
  exact ⟨rfl, rfl⟩

set_option maxHeartbeats 4000000 in
theorem scan_any (A : Option Addr) (n c : Nat) (b : List UInt8) (w : World) (hr : Reads w w.heap.size 1 A n (bvs b)) (hc : n ≤ c) (hcm : c ≤ maxLen) (hn : n ≤ 10000000) :
    Calls Try.prog 19 #[.slice A n c] w fun e w' => ∃ v ps, e = .returned (.tuple #[v, .int .i64 (scanF b).2]) ∧ ps.map (·.l) = (scanF b).1 ∧ LOwn w' w.heap.size v ps ∧ Below w.heap.size w w' := by
  refine (callsIn_wide (n := 5)).1 ?_
  refine callsIn_of_wp_marks Try.func19 rfl trivial ?_ rfl
  simp only [Try.ntmps19, List.size_toArray, List.length_cons, List.length_nil, Nat.reduceAdd, Nat.reduceSub, Array.replicate_succ, Array.replicate_zero, List.push_toArray, List.append_toArray, List.nil_append, List.cons_append]
  refine wpIn_wide.2 ?_
  have hL0 := (Blk.new w 39 #[.slice none 0 0]).alloc (.cells #[.int .i64 0] 3)
  have hF0 := Blk.new (w.alloc (.cells #[.slice none 0 0] 39)) 3 #[.int .i64 0]
  rw [World.size_alloc] at hF0
  have hb0 : Below w.heap.size w ((w.alloc (.cells #[.slice none 0 0] 39)).alloc (.cells #[.int .i64 0] 3)) := ((Below.refl _ w).alloc (Nat.le_refl _) _).alloc (by simp) _
  go_upto_region 3 with (fail)
  generalize (w.alloc (.cells #[.slice none 0 0] 39)).alloc (.cells #[.int .i64 0] 3) = w1 at *
  have hF0l : w.heap.size + 1 < w1.heap.size := hF0.lt
  have hr1 := hr.below hb0
  have hk2 := Blk.new w1 25 #[.slice A n c]
  have hL2 := hL0.alloc (.cells #[.slice A n c] 25)
  have hF2 := hF0.alloc (.cells #[.slice A n c] 25)
  have hb2 : Below w1.heap.size w1 (w1.alloc (.cells #[.slice A n c] 25)) := (Below.refl _ w1).alloc (Nat.le_refl _) _
  have hbw2 := hb0.trans (hb2.mono hb0.size)
  have hr2 := (hr.below hbw2).more hbw2.size
  go_wp2_with (first
    | (go_at_call 38
       go_must (
       refine (rows_any A n c w1).mono ?_
       rintro e w2 ⟨rfl, rfl⟩))
    | fail)
  generalize w1.alloc (.cells #[.slice A n c] 25) = w2 at *
  have hbxc := hk2.cell 0
  rw [show (#[Value.slice A n c] : Array Value)[0]? = some (.slice A n c) from rfl] at hbxc
  have hAb : ∀ k o, A = some ⟨k, o, none⟩ → 0 < n → k < w.heap.size := fun k o e h0 => by
    obtain ⟨k', o', e', hk', _⟩ := hr.2 h0
    rw [e] at e'
    cases e'
    exact hk'
  refine (wpIn_wide (n := 5)).1 ?_
  refine range_toldP rfl (by omega) (gf := 50) (lb := #[.pointer (some ⟨w1.heap.size, 0, none⟩)]) rfl trivial (enters_of Try.func50 (by kernel_rfl) rfl)
    (rows_told _ w1.heap.size A n c b w2 hbxc hk2.lt hr2 hc hcm (by omega)) KeepsS.trans (fun W k o o' _ h hc _ => keepsS_putObj W k o o' h hc) (fun _ => rfl)
    (fun pre W => (∃ v, Blk W w.heap.size 39 #[v] ∧ LOwn W w2.heap.size v pre) ∧ Blk W (w.heap.size + 1) 3 #[.int .i64 (lastE pre)] ∧ Below w.heap.size w W ∧ w2.heap.size ≤ W.heap.size) ?own (fun x A B row hs hg hr => ⟨own_grownN hs.1 hg (fun r e => (hr r e).2), hs.2⟩) ⟨⟨_, hL2, World.ownsRow_nil _ _ _ _, fun p hp => by cases hp⟩, hF2, hbw2, Nat.le_refl _⟩
    (fun x => { tmps := #[.slice A n c, undef, .slice none 0 0, .int .i64 0, .pointer (some ⟨w.heap.size, 0, none⟩), .pointer (some ⟨w.heap.size + 1, 0, none⟩), .slice x.A x.n x.c, .int .i64 x.e, .slice A n c, .func (.func 50) #[] #[.pointer (some ⟨w1.heap.size, 0, none⟩)], .slice x.A x.n x.c, .int .i64 x.e, undef, undef, undef, undef, undef, undef, undef], defers := [] }) ?assign ?body ?done
  case own =>
    rintro pre A2 B2 row ⟨⟨v, h1, h2⟩, h3, h4, h5⟩ hgr hr
    have hrow : ∀ r, row = some r → ∃ o, A2.heap[r]? = some o ∧ o.isCells = false := fun r e => (hr r e).2
    exact ⟨⟨v, h1.grownN hgr hrow, h2.grownN hgr hrow⟩, h3.grownN hgr hrow, h4.grown hgr h4.size (fun k e => Nat.le_trans hbw2.size (hr k e).1), Nat.le_trans h5 hgr.size⟩
  case assign =>
    intro k x W K hK
    unfold encS
    gi_wp2
    exact hK
  case body =>
    rintro lp pre x W ⟨⟨v, h1, h2⟩, h3, h4, h5⟩ ⟨hx1, hx2⟩
    obtain ⟨A5, c5, rfl, hc51, hc52⟩ := own_slice h2.1
    have q1 := h1.cell 0
    rw [show (#[Value.slice A5 pre.length c5] : Array Value)[0]? = some (.slice A5 pre.length c5) from rfl] at q1
    have q3 := h3.cell 0
    rw [show (#[Value.int .i64 (lastE pre)] : Array Value)[0]? = some (.int .i64 (lastE pre)) from rfl] at q3
    have f1 := h1.frozen 0
    have f3 := h3.frozen 0
    have hsL : ∀ v' n' xs' (w' : World), w'.ownsRow w2.heap.size 22 1 v' n' xs' → v'.ownBlock ≠ some w.heap.size ∧ v'.ownBlock ≠ some (w.heap.size + 1) := fun v' n' xs' w' ho => ⟨fun e => by have := (ho.lt _ e).1; have := hb2.size; omega, fun e => by have := (ho.lt _ e).1; have := hb2.size; omega⟩
    have hsI : ∀ p (w' : World), RxS w2.heap.size p w' → (Value.slice p.A p.n p.c).ownBlock ≠ some w.heap.size ∧ (Value.slice p.A p.n p.c).ownBlock ≠ some (w.heap.size + 1) := fun p w' ho => ⟨fun e => by have := (ho.lt _ e).1; have := hb2.size; omega, fun e => by have := (ho.lt _ e).1; have := hb2.size; omega⟩
    have hone := Reads.one_new W (.slice x.A x.n x.c) 22
    have hw2 : w1.heap.size ≤ w2.heap.size := hb2.size
    have hbx2 : w1.heap.size < w2.heap.size := hk2.lt
    gi_wp2_with (first
      | (gi_at_builtin
         go_must (
         refine wpListIn_append rfl (.tmp 12) (.tmp 14) 39 rfl strs_ok Try.underlying39 (h2.1.alloc _) rfl hone rfl (lvs_one [x]) (by unfold maxLen; omega) (by omega) (by simp; omega) ?_
         intro v6 w6 hown6 hb6 hg6
         have hL6 := (h1.alloc (.cells #[.slice x.A x.n x.c] 22)).below hb6 (by omega)
         have hF6 := (h3.alloc (.cells #[.slice x.A x.n x.c] 22)).below hb6 (by omega)
         have hk6 := (KeepsOthers.alloc W (.cells #[.slice x.A x.n x.c] 22)).trans (own_others (h2.1.alloc _) hg6)
         have hb6w := (h4.alloc h4.size (.cells #[.slice x.A x.n x.c] 22)).trans (hb6.mono (by omega))
         have hin6 : ∀ p ∈ pre ++ [x], RxS w2.heap.size p w6 := fun p hp => by
           have hpw : RxS w2.heap.size p W := by
             rcases List.mem_append.1 hp with hp | hp
             · exact h2.2 p hp
             · rw [List.mem_singleton.1 hp]; exact hx1
           exact own_grownFar (World.ownsRow.alloc hpw _) hg6 (fun j hj => own_apart (World.ownsRow.alloc hpw (.cells #[.slice x.A x.n x.c] 22)) (h2.1.alloc _) (by decide) j hj)
         have hc6 : ∀ b o u, b < w2.heap.size → W.cell? ⟨b, o, none⟩ = some u → w6.cell? ⟨b, o, none⟩ = some u := fun b o u hb' hu => by
           refine (hb6.cell (p := ⟨b, o, none⟩) hb').trans ?_
           rw [World.cell?_alloc_lt _ _ _ (by simp; omega)]
           exact hu
         have hz6 := hb6.size
         rw [World.size_alloc] at hz6
         have q6 := hL6.cell 0
         rw [show (#[Value.slice A5 pre.length c5] : Array Value)[0]? = some (.slice A5 pre.length c5) from rfl] at q6
         have q7 := hF6.cell 0
         rw [show (#[Value.int .i64 (lastE pre)] : Array Value)[0]? = some (.int .i64 (lastE pre)) from rfl] at q7
         have f6 := hL6.frozen 0
         have f7 := hF6.frozen 0
         have hs6 := hsL _ _ _ _ hown6
         obtain ⟨A6, c6, rfl, hc61, hc62⟩ := own_slice hown6))
      | fail)
    have hw6z : ((w6.setCell ⟨w.heap.size, 0, none⟩ (.slice A6 (pre.length + 1) c6)).setCell ⟨w.heap.size + 1, 0, none⟩ (.int .i64 (x.e : Int))).heap.size = w6.heap.size := by simp
    refine ⟨((hk6.trans (KeepsOthers.setCell _ _ _)).trans (KeepsOthers.setCell _ _ _)).from _, ⟨by rw [hw6z]; omega, fun k o u hS hu => ?_⟩, ⟨.slice A6 (pre.length + 1) c6, (Blk.put1 (v := .slice A6 (pre.length + 1) c6) hL6).far (p := ⟨w.heap.size + 1, 0, none⟩) (by simp) (.int .i64 (x.e : Int)), ?_, fun p hp => ?_⟩, ?_, (hb6w.setCell (p := ⟨w.heap.size, 0, none⟩) (Nat.le_refl _) _).setCell (p := ⟨w.heap.size + 1, 0, none⟩) (by simp) _, by rw [hw6z]; omega⟩
    · have hk : k < w2.heap.size ∧ k ≠ w.heap.size ∧ k ≠ w.heap.size + 1 := by
        rcases hS with rfl | ⟨h0, o', hA⟩
        · exact ⟨hbx2, by omega, by omega⟩
        · have := hAb k o' hA h0
          exact ⟨by omega, by omega, by omega⟩
      rw [World.cell?_setCell_other _ ⟨w.heap.size + 1, 0, none⟩ ⟨k, o, none⟩ _ (fun e => by injection e with e; exact hk.2.2 e.symm), World.cell?_setCell_other _ ⟨w.heap.size, 0, none⟩ ⟨k, o, none⟩ _ (fun e => by injection e with e; exact hk.2.1 e.symm)]
      exact hc6 k o u hk.1 hu
    · have := own_far (own_far hown6 (p := ⟨w.heap.size, 0, none⟩) hs6.1 (.slice A6 (pre.length + 1) c6)) (p := ⟨w.heap.size + 1, 0, none⟩) hs6.2 (.int .i64 (x.e : Int))
      rw [List.length_append, lvs_append]
      exact this
    · have hq := hin6 p hp
      have hs := hsI p w6 hq
      exact own_far (own_far hq (p := ⟨w.heap.size, 0, none⟩) hs.1 (.slice A6 (pre.length + 1) c6)) (p := ⟨w.heap.size + 1, 0, none⟩) hs.2 (.int .i64 (x.e : Int))
    · rw [lastE_snoc]
      exact Blk.put1 (v := .int .i64 (x.e : Int)) (hF6.far (p := ⟨w.heap.size, 0, none⟩) (by simp) (.slice A6 (pre.length + 1) c6))
  case done =>
    rintro D xs W hD ⟨hS1, hS2⟩ ⟨⟨v, h1, h2⟩, h3, h4, h5⟩ hK
    obtain ⟨A5, c5, rfl, hc51, hc52⟩ := own_slice h2.1
    have q1 := h1.cell 0
    rw [show (#[Value.slice A5 xs.length c5] : Array Value)[0]? = some (.slice A5 xs.length c5) from rfl] at q1
    have q3 := h3.cell 0
    rw [show (#[Value.int .i64 (lastE xs)] : Array Value)[0]? = some (.int .i64 (lastE xs)) from rfl] at q3
    have HS2 := hide hS2
    have HS1 := hide hS1
    clear hS1 hS2
    go_wp2_with fail
    go_quiet (fail)
    have hK' : (W.drewN nq).heap[D]? = some (.deferred (some [])) := hK
    have h2' : LOwn (W.drewN nq) w2.heap.size (.slice A5 xs.length c5) xs := h2
    have h4' : Below w.heap.size w (W.drewN nq) := below_drewN h4 _
    generalize W.drewN nq = W' at *
    go_wp2_with fail
    have hgr := grownBy_putObj' W' D (.deferred none)
    have hrw : ∀ r, some D = some r → ∃ o, W'.heap[r]? = some o ∧ o.isCells = false := fun r e => by cases e; exact ⟨_, hK', rfl⟩
    refine ⟨by simp, .inl ⟨_, _, rfl, run_takeDeferred hK', ?_⟩⟩
    exact ⟨_, results_tmp2 rfl _ _ _, _, xs, by rw [← HS2.out]; rfl, HS1.out, (h2'.base hbw2.size).grownN hgr hrw, h4'.grown hgr h4'.size (fun k e => by cases e; have := hbw2.size; omega)⟩
end Go.Proofs.Ytbpodmgogokpiaa
