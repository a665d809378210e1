/- The walks of the law's all and is (package taborlaw06). Conditions: those of each theorem. -/
import Derived.Test.YtlglelgnpkdnbaaDqX
namespace Go.Proofs.Ytlglelgnpkdnbaa
open Go.RowKit Go.Shelf
set_option linter.unusedVariables false
attribute [local go_sem] Oper.semAt_some

theorem wpListIn_append {F : Fence} {nF : Nat} {P : Program} {ops : Array Oper} {rest : List Oper} {o : Oper} {a : Act} {Q : Exit → Act → World → Prop} {w : World} (hgd : o.guard = none) (s x : Operand) (t : TypeId)
    (ho : o.op = .call { callee := .builtin .append, args := #[s, x], argTypes := #[t, t] })
    {e : TypeId} {size bytes : Nat} {z : Value} (hE : ElemOk P e size bytes z) (ht : P.underlying t = some (.slice e))
    {base : Nat} {v : Value} {n : Nat} {xs : List Value} (hown : w.ownsRow base e size v n xs) (hs : a.eval s = v) {B : Nat} {A : Option Addr} {m c : Nat} {news : List Value} (hr : Reads w B size A m news) (hx : a.eval x = .slice A m c) (h1 : ∀ u ∈ news, u.oneCell' = true)
    (h63 : n + m ≤ maxLen) (hbytes : (n + m) * bytes ≤ 140737488355328) (hbase : base ≤ w.heap.size)
    (h : ∀ v' w', w'.ownsRow base e size v' (n + m) (xs ++ news) → Below base w w' → w.grownBy w' v.ownBlock → wpListIn F nF P ops Q rest (a.put o.dst v') w') : wpListIn F nF P ops Q (o :: rest) a w := by
  refine wpListIn_plain hgd fun K hK' => ?_
  obtain ⟨v', w', hrun, r1, r2, r3⟩ := run_append_any (P := P) t o.type e size bytes z hE ht hown (c := c) hr h1 h63 hbytes hbase
  unfold Oper.wpIn
  refine ⟨?_, ?_⟩
  · simp [Oper.about, ho, resolve, Target.leads, Sem.run_pure]
  · rw [Oper.semAt_plain F _ _ (by rw [ho]; intro c hc'; cases hc')]
    simp [execOp, ho, resolve, invoke, builtin, hs, hx, hrun, Result.andThen]
    exact hK' _ _ (h v' w' r1 (below_grown hown r2 hbase) r2)

theorem run_equalIn_func_nil (d : Nat) (f : Fn) (x y : Array Value) (w : World) : (Op.equalIn (d + 1) 62 (.func f x y) .nilFunc).run Try.prog w = .ok false w := by
  simp [Op.equalIn, run_underlying Try.underlying62]
theorem run_eql_func_nil (f : Fn) (x y : Array Value) (w : World) : (binOp .eql 62 (.func f x y) .nilFunc).run Try.prog w = .ok (.bool false) w := by
  simp only [binOp]
  simp [Op.equal, Op.maxDepth, run_equalIn_func_nil 9999 f x y w]
theorem own_others {w w' : World} {B : Nat} {e : TypeId} {v : Value} {n : Nat} {xs : List Value} (h : w.ownsRow B e 1 v n xs) (hg : w.grownBy w' v.ownBlock) : KeepsOthers w w' :=
  KeepsOthers.of_grownBy hg (fun j o hj ho => by
    rcases h.2 with ⟨h2, _⟩ | ⟨g, cap, cur, hv, hb, hk, _⟩
    · subst h2; cases hj
    · subst hv
      simp [Value.ownBlock] at hj
      subst hj
      rw [hk] at ho
      injection ho with ho
      subst ho
      rfl)
set_option maxHeartbeats 2000000 in
theorem lawAll_any {B g : Nat} {l : List ByteArray} (w : World) (h : DQ B w g l) (hn : l.length ≤ 65536) :
    Calls Try.prog 29 #[.pointer (some ⟨g, 0, none⟩)] w fun e w' => ∃ v, e = .returned (.tuple #[v, .bool true]) ∧ w'.ownsRow w.heap.size 9 1 v l.length (svs l) ∧ Below w.heap.size w w' := by
  have heqf := run_eql_func_nil
  refine (callsIn_wide (n := 5)).1 ?_
  refine callsIn_of_wp_marks Try.func29 rfl trivial ?_ rfl
  simp only [Try.ntmps29, List.size_toArray, List.length_cons, List.length_nil, Nat.reduceAdd, Nat.reduceSub, Array.replicate_succ, Array.replicate_zero, List.push_toArray, List.append_toArray, List.nil_append, List.cons_append]
  refine wpIn_wide.2 ?_
  go_upto_region 3 with (fail)
  have hL0 := (Blk.new w 29 #[.slice none 0 0]).alloc (.cells #[.bool true] 4)
  have hF0 := Blk.new (w.alloc (.cells #[.slice none 0 0] 29)) 4 #[.bool true]
  rw [World.size_alloc] at hF0
  have hb0 : Below w.heap.size w ((w.alloc (.cells #[.slice none 0 0] 29)).alloc (.cells #[.bool true] 4)) := ((Below.refl _ w).alloc (Nat.le_refl _) _).alloc (by simp) _
  generalize (w.alloc (.cells #[.slice none 0 0] 29)).alloc (.cells #[.bool true] 4) = w1 at *
  have hD1 := h.below hb0
  have hF0' := hF0
  go_wp2_with (first
    | (go_at_call 37
       (refine (all_any w1 hD1).mono ?_
        rintro e w2 ⟨bx0, v0, rfl, hbx0, hkx0, hox0, hb2⟩
        have hL2 := hL0.below hb2 hL0.lt
        have hF2 := hF0.below hb2 hF0.lt
        have hD2 := hD1.below hb2
        have hbw2 := hb0.trans (hb2.mono hb0.size)
        clear hL0 hF0 hD1))
    | (go_at_call 37
       go_must (
       refine (all_any w2 hD2).mono ?_
       rintro e w3 ⟨bx, v, rfl, hbx, hkx, hox, hb3⟩
       have hL3 := hL2.below hb3 hL2.lt
       have hF3 := hF2.below hb3 hF2.lt
       have hbw3 := hbw2.trans (hb3.mono hbw2.size)))
    | fail)
  obtain ⟨A, cap, rfl, hcap, hcm⟩ := own_slice hox
  have hbxc := hkx.cell 0
  rw [show (#[Value.slice A l.length cap] : Array Value)[0]? = some (.slice A l.length cap) from rfl] at hbxc
  have hrd := Reads.of_own hox
  have hgL : w.heap.size + 1 < w1.heap.size := hF0'.lt
  have hw2 : w1.heap.size ≤ w2.heap.size := hb2.size
  have hAb : ∀ b o, A = some ⟨b, o, none⟩ → w2.heap.size ≤ b ∧ b < w3.heap.size := fun b o e => by
    subst e
    exact hox.lt b rfl
  clear heqf
  refine (wpIn_wide (n := 5)).1 ?_
  refine range_toldP rfl (by omega) (gf := 43) (lb := #[.pointer (some ⟨bx, 0, none⟩)]) rfl trivial (enters_of Try.func43 (by kernel_rfl) rfl)
    (all1_toldP _ bx A l.length cap l w3 hbxc hkx.lt hrd (by omega)) KeepsS.trans (fun W k o o' _ h hc _ => keepsS_putObj W k o o' h hc) (fun _ => rfl)
    (fun pre W => (∃ v, Blk W w.heap.size 29 #[v] ∧ W.ownsRow w3.heap.size 9 1 v pre.length (svs (pre.map (·.2)))) ∧ Blk W (w.heap.size + 1) 4 #[.bool true] ∧ Below w.heap.size w W ∧ w3.heap.size ≤ W.heap.size) ?own (fun x A B row hs hg hr => hs) ⟨⟨_, hL3, World.ownsRow_nil _ _ _ _⟩, hF3, hbw3, Nat.le_refl _⟩
    (fun x => { tmps := #[(Value.pointer (some ⟨g, 0, none⟩)), undef, (.slice none 0 0), (.bool false), (.pointer (some ⟨w.heap.size, 0, none⟩)), (.pointer (some ⟨w.heap.size + 1, 0, none⟩)), (.int .i64 x.1), (.string x.2), (.pointer (some ⟨g, 0, none⟩)), (.func (.func 43) #[] #[.pointer (some ⟨bx0, 0, none⟩)]), (.bool false), (.pointer (some ⟨g, 0, none⟩)), (.func (.func 43) #[] #[.pointer (some ⟨bx, 0, none⟩)]), (.int .i64 x.1), (.string x.2), undef, undef, undef, undef, undef, undef, undef, undef, undef, undef, undef, undef, undef], defers := [] }) ?assign ?body ?done
  case own =>
    rintro pre A2 B2 row ⟨⟨v, h1, h2⟩, h3, h4, h5⟩ hgr hr
    have hrow : ∀ r, row = some r → ∃ o, A2.heap[r]? = some o ∧ o.isCells = false := fun r e => (hr r e).2
    exact ⟨⟨v, h1.grownN hgr hrow, own_grownN h2 hgr hrow⟩, h3.grownN hgr hrow, h4.grown hgr h4.size (fun k e => Nat.le_trans hbw3.size (hr k e).1), Nat.le_trans h5 hgr.size⟩
  case assign =>
    intro k x W K hK
    unfold encN
    gi_wp2
    exact hK
  case body =>
    rintro lp pre x W ⟨⟨v, h1, h2⟩, h3, h4, h5⟩ ⟨hx1, hx2, hx3⟩
    have hxn : x.1 < l.length := (List.getElem?_eq_some_iff.1 hx1).1
    rw [hx2] at h2
    obtain ⟨A5, c5, rfl, hc51, hc52⟩ := own_slice h2
    have q1 := h1.cell 0
    rw [show (#[Value.slice A5 x.1 c5] : Array Value)[0]? = some (.slice A5 x.1 c5) from rfl] at q1
    have q3 := h3.cell 0
    rw [show (#[Value.bool true] : Array Value)[0]? = some (.bool true) from rfl] at q3
    have f1 := h1.frozen 0
    have f3 := h3.frozen 0
    have hsF : (Value.slice A5 x.1 c5).ownBlock ≠ some (w.heap.size + 1) := fun e => by have := (h2.lt _ e).1; have := hb3.size; omega
    have hsL : ∀ v' n' (w' : World), w'.ownsRow w3.heap.size 9 1 v' n' (svs (pre.map (·.2)) ++ svs [x.2]) → v'.ownBlock ≠ some w.heap.size := fun v' n' w' ho e => by have := (ho.lt _ e).1; have := hb3.size; omega
    have h2s := own_far h2 (p := ⟨w.heap.size + 1, 0, none⟩) hsF (.bool true)
    have h1s := h1.far (p := ⟨w.heap.size + 1, 0, none⟩) (by simp) (.bool true)
    have h3s : Blk (W.setCell ⟨w.heap.size + 1, 0, none⟩ (.bool true)) (w.heap.size + 1) 4 #[.bool true] := h3.set_ 0 _
    have h4s : Below w.heap.size w (W.setCell ⟨w.heap.size + 1, 0, none⟩ (.bool true)) := h4.setCell (by simp) _
    have hks : KeepsOthers W (W.setCell ⟨w.heap.size + 1, 0, none⟩ (.bool true)) := KeepsOthers.setCell _ _ _
    have hcs : ∀ b o u, w2.heap.size ≤ b → W.cell? ⟨b, o, none⟩ = some u → (W.setCell ⟨w.heap.size + 1, 0, none⟩ (.bool true)).cell? ⟨b, o, none⟩ = some u := fun b o u hb hu => by
      rw [World.cell?_setCell_other W ⟨w.heap.size + 1, 0, none⟩ ⟨b, o, none⟩ _ (fun e => by injection e with e; omega)]; exact hu
    have hzs : (W.setCell ⟨w.heap.size + 1, 0, none⟩ (.bool true)).heap.size = W.heap.size := by simp
    have hone := Reads.one_new (W.setCell ⟨w.heap.size + 1, 0, none⟩ (.bool true)) (.string x.2) 9
    rw [hzs] at hone
    have hw3 : w2.heap.size ≤ w3.heap.size := hb3.size
    gi_wp2_with (first
      | (gi_at_builtin
         go_must (
         refine wpListIn_append rfl (.tmp 22) (.tmp 24) 29 rfl str_ok Try.underlying29 (h2s.alloc _) rfl hone rfl (svs_one [x.2]) (by unfold maxLen; omega) (by omega) (by simp; omega) ?_
         intro v6 w6 hown6 hb6 hg6
         have hL6 := (h1s.alloc (.cells #[.string x.2] 9)).below hb6 (by omega)
         have hF6 := (h3s.alloc (.cells #[.string x.2] 9)).below hb6 (by omega)
         have hk6 := hks.trans ((KeepsOthers.alloc _ (.cells #[.string x.2] 9)).trans (own_others (h2s.alloc _) hg6))
         have hb6w := ((h4s.alloc h4s.size (.cells #[.string x.2] 9))).trans (hb6.mono (by omega))
         have hc6 : ∀ b o u, w2.heap.size ≤ b → b < w3.heap.size → W.cell? ⟨b, o, none⟩ = some u → w6.cell? ⟨b, o, none⟩ = some u := fun b o u hb hb' hu => by
           refine (hb6.cell (p := ⟨b, o, none⟩) hb').trans ?_
           rw [World.cell?_alloc_lt _ _ _ (by simp; omega)]
           exact hcs b o u hb hu
         have hz6 := hb6.size
         rw [World.size_alloc, hzs] at hz6
         have q6 := hL6.cell 0
         rw [show (#[Value.slice A5 x.1 c5] : Array Value)[0]? = some (.slice A5 x.1 c5) from rfl] at q6
         have f6 := hL6.frozen 0
         have hs6 := hsL _ _ _ hown6
         obtain ⟨A6, c6, rfl, hc61, hc62⟩ := own_slice hown6))
      | fail)
    refine ⟨(hk6.trans (KeepsOthers.setCell _ _ _)).from _, ⟨by simp; omega, fun b o u ⟨o2, hA⟩ hu => ?_⟩, ⟨.slice A6 (x.1 + 1) c6, hL6.set_ 0 _, ?_⟩, hF6.far (by simp) _, hb6w.setCell (by simp) _, by simp; omega⟩
    · have hab := hAb b o2 hA
      rw [World.cell?_setCell_other w6 ⟨w.heap.size, 0, none⟩ ⟨b, o, none⟩ _ (fun e => by injection e with e; omega)]
      exact hc6 b o u hab.1 hab.2 hu
    · have := own_far hown6 (p := ⟨w.heap.size, 0, none⟩) hs6 (.slice A6 (x.1 + 1) c6)
      rw [show ([Value.string x.2] : List Value) = svs [x.2] from rfl, ← svs_append] at this
      simpa [List.map_append, hx2] using this
  case done =>
    rintro D xs W hD ⟨hS1, hS2⟩ ⟨⟨v, h1, h2⟩, h3, h4, h5⟩ hK
    rw [hS1, hS2] at h2
    obtain ⟨A5, c5, rfl, hc51, hc52⟩ := own_slice h2
    have q1 := h1.cell 0
    rw [show (#[Value.slice A5 l.length c5] : Array Value)[0]? = some (.slice A5 l.length c5) from rfl] at q1
    have q3 := h3.cell 0
    rw [show (#[Value.bool true] : Array Value)[0]? = some (.bool true) from rfl] at q3
    go_wp2_with fail
    go_quiet (fail)
    have hK' : (W.drewN nq).heap[D]? = some (.deferred (some [])) := hK
    have h2' : (W.drewN nq).ownsRow w3.heap.size 9 1 (.slice A5 l.length c5) l.length (svs l) := h2
    have h4' : Below w.heap.size w (W.drewN nq) := below_drewN h4 _
    generalize W.drewN nq = W' at *
    go_wp2_with fail
    have hgr := grownBy_putObj' W' D (.deferred none)
    have hrw : ∀ r, some D = some r → ∃ o, W'.heap[r]? = some o ∧ o.isCells = false := fun r e => by cases e; exact ⟨_, hK', rfl⟩
    refine ⟨by simp, .inl ⟨_, _, rfl, run_takeDeferred hK', ?_⟩⟩
    exact ⟨_, results_tmp2 rfl _ _ _, _, rfl, own_grownN (own_base h2' hbw3.size) hgr hrw, h4'.grown hgr h4'.size (fun k e => by cases e; have := hbw3.size; omega)⟩
end Go.Proofs.Ytlglelgnpkdnbaa
