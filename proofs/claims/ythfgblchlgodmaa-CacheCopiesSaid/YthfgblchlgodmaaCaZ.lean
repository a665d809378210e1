/- The walk of All's iterator, as a range over it is told; of the law's all (packages cache, taborlaw21). Conditions: those of each theorem. -/
import Derived.Test.YthfgblchlgodmaaCaY
namespace Go.Proofs.Ythfgblchlgodmaa
open Go.RowKit Go.Shelf
set_option linter.unusedVariables false
attribute [local go_sem] Oper.semAt_some

theorem wpListIn_append {F : Fence} {nF : Nat} {P : Program} {ops : Array Oper} {rest : List Oper} {o : Oper} {a : Act} {Q : Exit → Act → World → Prop} {w : World} (hgd : o.guard = none) (s x : Operand) (t : TypeId)
    (ho : o.op = .call { callee := .builtin .append, args := #[s, x], argTypes := #[t, t] })
    {e : TypeId} {size bytes : Nat} {z : Value} (hE : ElemOk P e size bytes z) (ht : P.underlying t = some (.slice e))
    {base : Nat} {v : Value} {n : Nat} {xs : List Value} (hown : w.ownsRow base e size v n xs) (hs : a.eval s = v) {B : Nat} {A : Option Addr} {m c : Nat} {news : List Value} (hr : Reads w B size A m news) (hx : a.eval x = .slice A m c) (h1 : ∀ u ∈ news, u.oneCell' = true)
    (h63 : n + m ≤ maxLen) (hbytes : (n + m) * bytes ≤ 140737488355328) (hbase : base ≤ w.heap.size)
    (h : ∀ v' w', w'.ownsRow base e size v' (n + m) (xs ++ news) → Below base w w' → w.grownBy w' v.ownBlock → wpListIn F nF P ops Q rest (a.put o.dst v') w') : wpListIn F nF P ops Q (o :: rest) a w := by
  refine wpListIn_plain hgd fun K hK' => ?_
  obtain ⟨v', w', hrun, r1, r2, r3⟩ := run_append_any (P := P) t o.type e size bytes z hE ht hown (c := c) hr h1 h63 hbytes hbase
  unfold Oper.wpIn
  refine ⟨?_, ?_⟩
  · simp [Oper.about, ho, resolve, Target.leads, Sem.run_pure]
  · rw [Oper.semAt_plain F _ _ (by rw [ho]; intro c hc'; cases hc')]
    simp [execOp, ho, resolve, invoke, builtin, hs, hx, hrun, Result.andThen]
    exact hK' _ _ (h v' w' r1 (below_grown hown r2 hbase) r2)

theorem Blk.grownN {w w' : World} {row : Option Nat} {k : Nat} {t : TypeId} {cs : Array Value} (h : Blk w k t cs) (hg : w.grownBy w' row) (hr : ∀ r, row = some r → ∃ o, w.heap[r]? = some o ∧ o.isCells = false) : Blk w' k t cs :=
  h.grown hg (fun e => by
    obtain ⟨o, ho, hc⟩ := hr k e.symm
    unfold Blk at h
    rw [h] at ho
    injection ho with ho
    subst ho
    cases hc)
theorem own_grownN {w w' : World} {row : Option Nat} {B : Nat} {e : TypeId} {size : Nat} {v : Value} {n : Nat} {xs : List Value} (h : w.ownsRow B e size v n xs) (hg : w.grownBy w' row) (hr : ∀ r, row = some r → ∃ o, w.heap[r]? = some o ∧ o.isCells = false) : w'.ownsRow B e size v n xs := by
  obtain ⟨h1, h2⟩ := h
  refine ⟨h1, ?_⟩
  rcases h2 with h2 | ⟨g, cap, cur, rfl, b, c, d⟩
  · exact .inl h2
  · have hk : Blk w g e cur := c
    exact .inr ⟨g, cap, cur, rfl, b, hk.grownN hg hr, d⟩
theorem own_others {w w' : World} {B : Nat} {e : TypeId} {size : Nat} {v : Value} {n : Nat} {xs : List Value} (h : w.ownsRow B e size v n xs) (hg : w.grownBy w' v.ownBlock) : KeepsOthers w w' :=
  KeepsOthers.of_grownBy hg (fun j o hj ho => by
    rcases h.2 with ⟨h2, _⟩ | ⟨g, cap, cur, hv, hb, hk, _⟩
    · subst h2; cases hj
    · subst hv
      simp [Value.ownBlock] at hj
      subst hj
      rw [hk] at ho
      injection ho with ho
      subst ho
      rfl)

set_option maxHeartbeats 4000000 in
set_option maxRecDepth 20000 in
theorem callS_told (m : Nat) {lo hi : Nat} {S : EL} (w : World) (hA : AllAt w lo hi S) (hhi : hi ≤ w.heap.size) (hn : S.length ≤ 30000) :
    SeqToldP Fence.wide m Try.prog 38 #[.pointer (some ⟨lo, 0, none⟩), .pointer (some ⟨lo + 1, 0, none⟩)] enc2 (fun pre x W => pre = S.take pre.length ∧ S[pre.length]? = some x) (Keeps lo hi) (fun xs => xs = S) w := by
  intro lp J W hW hJ hY h0
  have hAW := hA.keeps (Keeps.below hW hhi)
  clear hA
  have hAW' := hAW
  obtain ⟨A1, c1, A2, c2, k1, k2, R1, R2, hlt, hc1, hc2⟩ := hAW'
  have q1 : W.cell? ⟨lo, 0, none⟩ = some (.slice A1 S.length c1) := k1.cell 0
  clear k2 R1 R2 hc2
  refine callsIn_of_wp Try.func38 rfl trivial ?_ rfl
  simp only [Try.ntmps38, List.size_toArray, List.length_cons, List.length_nil, Nat.reduceAdd, Nat.reduceSub, Array.replicate_succ, Array.replicate_zero, List.push_toArray, List.append_toArray, List.nil_append, List.cons_append]
  gi_wp2_with fail
  gi_loopw [4, 5, 8] (fun _ _ i wr => ∃ t : Nat, i = .int .i64 t ∧ t ≤ S.length ∧ J (S.take t) wr ∧ AllAt wr lo hi S ∧ (∃ cc, Blk wr lo 60 #[.slice A1 S.length cc])) (fun _ _ i _ => S.length - (intOf i).toNat)
  case atStart => exact ⟨0, rfl, Nat.zero_le _, h0, hAW, c1, k1⟩
  case round =>
    obtain ⟨t, rfl, ht, hJt, hAt, cc, kk⟩ := hrel
    clear q1 k1 hAW
    by_cases htn : t < S.length
    · have htI : (t : Int) < (S.length : Int) := by omega
      have ht0 : (0 : Int) ≤ (t : Int) := by omega
      have hw2 : IntKind.i64.wrap ((t : Int) + 1) = (t : Int) + 1 := IntWalk.i64_in _ (by omega)
      obtain ⟨x, hx⟩ : ∃ x, S[t]? = some x := ⟨S[t]'htn, List.getElem?_eq_getElem _⟩
      have hAt' := hAt
      obtain ⟨B1, d1, B2, d2, k1, k2, R1, R2, _, e1, e2⟩ := hAt'
      have hsl : A1 = B1 := by
        have h1 := kk.symm.trans k1
        injection h1 with h1
        injection h1 with h1
        have h2 := congrArg (fun (z : Array Value) => z[0]?) h1
        simp at h2
        exact h2.1
      subst hsl
      obtain ⟨b1, o1, s1, rfl, hb1, hs1, hc1'⟩ := R1.1.text htn
      obtain ⟨b2, o2, s2, rfl, hb2, hs2, hc2'⟩ := R2.1.text htn
      rw [List.getElem?_map, hx] at hs1 hs2
      injection hs1 with hs1
      injection hs2 with hs2
      subst hs1 hs2
      have q2 : wr.cell? ⟨lo + 1, 0, none⟩ = some (.slice (some ⟨b2, o2, none⟩) S.length d2) := k2.cell 0
      have hpl : (S.take t).length = t := by rw [List.length_take]; omega
      obtain ⟨fn, tmps, assign, body, hy, hR⟩ := hY (S.take t) x wr hJt ⟨by rw [hpl], by rw [hpl]; exact hx⟩
      dsimp only [enc2] at hy
      have HX := hide (take_snocD hx)
      clear hx hpl k1 k2 R1 R2
      gi_wp2_with fail
      refine ⟨fun h => (by cases h), hR.mono ?_⟩
      rintro e W3 ⟨rfl, hJ3, hk3⟩
      gi_wp2_with fail
      go_roundw
      case rel =>
        exact ⟨t + 1, by simp, by omega, by rw [HX.out]; exact hJ3, hAt.keeps hk3, cc, (hk3.2 lo (Nat.le_refl _) (by omega)).trans kk⟩
      case measure => simp [intOf]; omega
    · have htI : ¬ (t : Int) < (S.length : Int) := by omega
      obtain rfl : t = S.length := by omega
      gi_wp2_with fail
      go_end0
      rw [List.take_of_length_le (Nat.le_refl _)] at hJt
      first | exact ⟨⟨_, rfl⟩, hJt⟩ | exact ⟨⟨_, rfl⟩, S, rfl, hJt⟩

set_option maxHeartbeats 4000000 in
set_option maxRecDepth 20000 in
theorem lawAll_any {g r1 r2 : Nat} {S N : EL} (w : World) (h : CE w g r1 r2 S N) (hn : S.length ≤ 30000) (hs : ∀ x ∈ S, x.1.size ≤ maxLen) :
    Calls Try.prog 30 #[.pointer (some ⟨g, 0, none⟩)] w fun e w' => ∃ A n c, e = .returned (.slice A n c) ∧ EOwn w' w.heap.size A n c S ∧ Below w.heap.size w w' := by
  have heqf := run_eql_func_nil
  refine (callsIn_wide (n := 5)).1 ?_
  refine callsIn_of_wp_marks Try.func30 rfl trivial ?_ rfl
  simp only [Try.ntmps30, List.size_toArray, List.length_cons, List.length_nil, Nat.reduceAdd, Nat.reduceSub, Array.replicate_succ, Array.replicate_zero, List.push_toArray, List.append_toArray, List.nil_append, List.cons_append]
  refine wpIn_wide.2 ?_
  go_upto_region 2 with (fail)
  have hL0 := Blk.new w 28 #[.slice none 0 0]
  have hb0 : Below w.heap.size w (w.alloc (.cells #[.slice none 0 0] 28)) := (Below.refl _ w).alloc (Nat.le_refl _) _
  generalize w.alloc (.cells #[.slice none 0 0] 28) = w1 at *
  have h1 := h.below hb0
  have T1 := hide True.intro
  go_wp2_with (first
    | (go_at_call 18
       have _t := T1
       go_must (
       refine (call_any w1 h1 hn hs).mono ?_
       rintro e w2 ⟨rfl, _, hb2⟩
       have hL2 := hL0.below hb2 hL0.lt
       have hbw2 := hb0.trans (hb2.mono hb0.size)
       have h2 := h1.below hb2
       clear T1 _t))
    | (go_at_call 18
       go_must (
       refine (call_any w2 h2 hn hs).mono ?_
       rintro e w3 ⟨rfl, hA3, hb3⟩
       have hL3 := hL2.below hb3 hL2.lt
       have hbw3 := hbw2.trans (hb3.mono hbw2.size)))
    | fail)
  clear heqf
  have hlt2 : w.heap.size < w2.heap.size := hL2.lt
  refine (wpIn_wide (n := 5)).1 ?_
  refine range_toldP rfl (by omega) (gf := 38) (lb := #[.pointer (some ⟨w2.heap.size, 0, none⟩), .pointer (some ⟨w2.heap.size + 1, 0, none⟩)]) rfl trivial (enters_of Try.func38 (by kernel_rfl) rfl)
    (callS_told _ w3 hA3 (Nat.le_refl _) hn) Keeps.trans ?keepP (fun _ => rfl)
    (fun pre W => (∃ v, Blk W w.heap.size 28 #[v] ∧ W.ownsRow w3.heap.size 49 2 v pre.length (evs pre)) ∧ Below w.heap.size w W ∧ w3.heap.size ≤ W.heap.size) ?own ?step ⟨⟨_, hL3, World.ownsRow_nil _ _ _ _⟩, hbw3, Nat.le_refl _⟩
    (fun x => { tmps := #[(Value.pointer (some ⟨g, 0, none⟩)), undef, (.slice none 0 0), (.pointer (some ⟨w.heap.size, 0, none⟩)), (.string x.1), (.string x.2), (.pointer (some ⟨g, 0, none⟩)), (.func (.func 38) #[] #[.pointer (some ⟨w1.heap.size, 0, none⟩), .pointer (some ⟨w1.heap.size + 1, 0, none⟩)]), (.bool false), (.pointer (some ⟨g, 0, none⟩)), (.func (.func 38) #[] #[.pointer (some ⟨w2.heap.size, 0, none⟩), .pointer (some ⟨w2.heap.size + 1, 0, none⟩)]), (.string x.1), (.string x.2), undef, undef, undef, undef, undef, undef, undef], defers := [] }) ?assign ?body ?done
  case keepP =>
    intro W k o o' hk ho hc _
    exact ⟨by simp [World.putObj], fun q _ hq => World.putObj_heap_other (by omega)⟩
  case own =>
    rintro pre A2 B2 row ⟨⟨v, z1, z2⟩, z4, z5⟩ hgr hr
    have hrow : ∀ q, row = some q → ∃ o, A2.heap[q]? = some o ∧ o.isCells = false := fun q e => (hr q e).2
    exact ⟨⟨v, z1.grownN hgr hrow, own_grownN z2 hgr hrow⟩, z4.grown hgr z4.size (fun k e => Nat.le_trans hbw3.size (hr k e).1), Nat.le_trans z5 hgr.size⟩
  case step =>
    exact fun x A B row hs hg hr => hs
  case assign =>
    intro k x W K hK
    unfold enc2
    gi_wp2
    exact hK
  case body =>
    rintro lp pre x W ⟨⟨v, q1, q2⟩, q4, q5⟩ ⟨hx1, hx2⟩
    have hpl : pre.length < S.length := (List.getElem?_eq_some_iff.1 hx2).1
    obtain ⟨Av, nv, cv, rfl⟩ := own_sliceN q2
    have hnv := own_len2 q2
    subst hnv
    have c1 := q1.cell 0
    have hone := one_reads W x
    have hown : (W.alloc (.cells #[.string x.1, .string x.2] 49)).ownsRow w3.heap.size 49 2 (.slice Av pre.length cv) pre.length (evs pre) := q2.alloc _
    have hz1 : pre.length + 1 ≤ maxLen := by unfold maxLen; omega
    have hz2 : (pre.length + 1) * 32 ≤ 140737488355328 := by omega
    have hz3 : w3.heap.size ≤ (W.alloc (.cells #[.string x.1, .string x.2] 49)).heap.size := by rw [World.size_alloc]; omega
    have hL1 := q1.alloc (.cells #[.string x.1, .string x.2] 49)
    have hb1 : Below w.heap.size w (W.alloc (.cells #[.string x.1, .string x.2] 49)) := q4.alloc q4.size _
    have hk1 := KeepsOthers.alloc W (.cells #[.string x.1, .string x.2] 49)
    have hkk1 : Keeps w2.heap.size w3.heap.size W (W.alloc (.cells #[.string x.1, .string x.2] 49)) := Keeps.below ((Below.refl W.heap.size W).alloc (Nat.le_refl _) _) q5
    clear hx1 hx2
    gi_wp2_with (first
      | (gi_at_builtin
         go_must (
         refine wpListIn_append rfl (.tmp 13) (.tmp 17) 28 rfl ent_ok Try.underlying28 hown rfl hone rfl (evs_one [x]) hz1 hz2 hz3 ?_
         intro v6 w6 hown6 hb6 hg6
         obtain ⟨A6, n6, c6, rfl⟩ := own_sliceN hown6
         have hn6 := own_len2 hown6
         subst hn6
         have hL6 := hL1.grown hg6 (fun e => own_notN hown hL1 (by decide) e.symm)
         have hk6 := hk1.trans (own_others hown hg6)
         have hkk6 := hkk1.trans (Keeps.below hb6 (Nat.le_refl _))
         have hb6w := hb1.trans (hb6.mono hbw3.size)
         have q6 := hL6.cell 0
         have f6 := hL6.frozen 0))
      | fail)
    refine ⟨(hk6.trans (KeepsOthers.setCell _ _ _)).from _, hkk6.trans ⟨by simp, fun k h1 h2 => Below.heap_setCell w6 ⟨w.heap.size, 0, none⟩ _ k (by show k ≠ w.heap.size; omega)⟩, ⟨.slice A6 (pre.length + 1) c6, hL6.set_ 0 _, ?_⟩, hb6w.setCell (p := ⟨w.heap.size, 0, none⟩) (Nat.le_refl _) _, by rw [World.size_setCell]; exact Nat.le_trans hz3 hb6.size⟩
    rw [List.length_append, evs_append]
    exact own_farN hown6 (p := ⟨w.heap.size, 0, none⟩) (own_notN hown6 hL6 (by decide)) _
  case done =>
    rintro D xs W hD hS ⟨⟨v, q1, q2⟩, q4, q5⟩ hK
    subst hS
    obtain ⟨Av, nv, cv, rfl⟩ := own_sliceN q2
    have hnv := own_len2 q2
    subst hnv
    have c1 := q1.cell 0
    rw [show (#[Value.slice Av xs.length cv] : Array Value)[0]? = some (.slice Av xs.length cv) from rfl] at c1
    go_wp2_with fail
    have hgr := grownBy_putObj' W D (.deferred none)
    have hD' : ∃ o, W.heap[D]? = some o ∧ o.isCells = false := ⟨_, hK, rfl⟩
    refine ⟨by simp, .inl ⟨_, _, rfl, run_takeDeferred hK, ?_⟩⟩
    refine ⟨_, results_tmp rfl _ _ _, Av, _, cv, rfl, own_base2 (own_grownN q2 hgr (fun r e => by cases e; exact hD')) hbw3.size, q4.grown hgr q4.size (fun k e => by cases e; have := hbw3.size; omega)⟩
end Go.Proofs.Ythfgblchlgodmaa
