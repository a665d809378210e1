/- The walk of the law CacheCopies (package taborlaw21). Conditions: those of the theorem. -/
import Derived.Test.YthfgblchlgodmaaCbF
import Derived.Lib.MinMax
namespace Go.Proofs.Ythfgblchlgodmaa
open Go.RowKit Go.Shelf
set_option linter.unusedVariables false
set_option linter.unusedSimpArgs false
attribute [local go_sem] Oper.semAt_some

theorem one_act (w : World) (x : CAct) : Reads (w.alloc (.cells #[.int .i64 x.what, .string x.name, .string x.script] 39)) (w.heap.size + 1) 3 (some ⟨w.heap.size, 0, none⟩) 1 (avs [x]) :=
  ⟨rfl, fun _ => ⟨w.heap.size, 0, rfl, by omega, fun j u hu => by
    have := (Blk.new w 39 #[.int .i64 x.what, .string x.name, .string x.script]).cell j
    rw [Nat.zero_add]
    refine this.trans ?_
    rw [← hu]
    simp [avs]⟩⟩

theorem CE.lt {w : World} {g r1 r2 : Nat} {S N : EL} (h : CE w g r1 r2 S N) : g < w.heap.size ∧ r1 < w.heap.size ∧ r2 < w.heap.size ∧ r1 ≠ r2 := by
  obtain ⟨ss, ns, hq, _⟩ := h
  exact ⟨hq.1.lt, hq.2.1.lt, hq.2.2.1.lt, hq.2.2.2⟩
theorem CE.mk {w w' : World} {g r1 r2 g' r1' r2' : Nat} {S N S' N' : EL} (h : CE w g r1 r2 S N) (hd : CE w g' r1' r2' S' N') (hm : MK r1 r2 w w') (h1 : r1' ≠ r1) (h2 : r1' ≠ r2) (h3 : r2' ≠ r1) (h4 : r2' ≠ r2) : CE w' g' r1' r2' S' N' := by
  obtain ⟨ss, ns, ⟨q1, q2, q3, q4⟩, q5⟩ := hd
  exact ⟨ss, ns, ⟨h.blk hm q1, q2.keep (hm.block _ q2.lt h1 h2), q3.keep (hm.block _ q3.lt h3 h4), q4⟩, q5⟩
theorem play_one (l : List CAct) (x : CAct) : playS (l ++ [x]) = (doS (playS l).1 (playS l).2 x, doN (playS l).1 (playS l).2 x) := by
  unfold playS
  rw [List.foldl_append]
  rfl
theorem Blk.mk1 {w W : World} {b k : Nat} {t : TypeId} {cs : Array Value} (h : Blk w k t cs) (hm : MK b b w W) (hk : k ≠ b) : Blk W k t cs := (hm.block k h.lt hk hk).trans h
theorem EOwn.mk1 {w W : World} {b B n c : Nat} {A : Option Addr} {l : EL} {cs : Array Value} (h : EOwn w B A n c l) (hb : Blk w b 3 cs) (hm : MK b b w W) : EOwn W B A n c l := by
  obtain ⟨h1, h2⟩ := h
  refine ⟨h1, ?_⟩
  rcases h2 with h2 | ⟨g', cap, cur, a, b', c', d⟩
  · exact .inl h2
  · have hk : Blk w g' 49 cur := c'
    exact .inr ⟨g', cap, cur, a, b', hk.mk1 hm (hk.ne_ hb (by decide)), d⟩
theorem CE.mk1 {w W : World} {b g r1 r2 : Nat} {S N : EL} {cs : Array Value} (h : CE w g r1 r2 S N) (hb : Blk w b 3 cs) (hm : MK b b w W) : CE W g r1 r2 S N := by
  have hn := h.ne hb
  obtain ⟨ss, ns, ⟨q1, q2, q3, q4⟩, q5⟩ := h
  exact ⟨ss, ns, ⟨q1.mk1 hm (q1.ne_ hb (by decide)), q2.keep (hm.block _ q2.lt (fun e => hn.1 e.symm) (fun e => hn.1 e.symm)), q3.keep (hm.block _ q3.lt (fun e => hn.2 e.symm) (fun e => hn.2 e.symm)), q4⟩, q5⟩
theorem MK.keeps {w W : World} {b lo hi : Nat} (hm : MK b b w W) (hhi : hi ≤ b) (hz : hi ≤ w.heap.size) : Keeps lo hi w W := ⟨hm.size, fun k h1 h2 => hm.block k (by omega) (by omega) (by omega)⟩
theorem MK.grown1 {w A B : World} {b : Nat} {row : Option Nat} (hm : MK b b w A) (hg : A.grownBy B row) (hr : ∀ q, row = some q → w.heap.size ≤ q) : MK b b w B :=
  ⟨hg.os.trans hm.os, hg.tape.trans hm.tape, hg.output.trans hm.output, Nat.le_trans hm.size hg.size, fun k hk h1 h2 => (hg.block k (Nat.lt_of_lt_of_le hk hm.size) (fun e => by have := hr k e.symm; omega)).trans (hm.block k hk h1 h2)⟩
theorem MK.set1 {w A : World} {b i : Nat} (hm : MK b b w A) (u : Value) : MK b b w (A.setCell ⟨b, i, none⟩ u) :=
  ⟨hm.os, hm.tape, hm.output, by rw [World.size_setCell]; exact hm.size, fun k hk h1 h2 => (Below.heap_setCell A ⟨b, i, none⟩ u k h1).trans (hm.block k hk h1 h2)⟩
theorem res_bool {fn : Func} {p : Tmp} (h : fn.results = #[.cell p 4]) (tmps : Array Value) (w : World) (g : Nat) (z : Bool) (hp : tmps.getD p undef = .pointer (some ⟨g, 0, none⟩)) (hc : w.cell? ⟨g, 0, none⟩ = some (.bool z)) : (results fn tmps).run Try.prog w = .ok (.bool z) w := by
  have hp' : tmps[p]?.getD undef = .pointer (some ⟨g, 0, none⟩) := by simpa using hp
  have ub := Try.underlying4
  simp [results, h, hp', asAddr, loadVar, run_underlying ub, hc, go_sem, Result.andThen]
theorem leave_none {w W : World} {a : Act} {g : Nat} (hd : a.defers = []) (hp : a.tmps.getD 4 undef = .pointer (some ⟨g, 0, none⟩)) (hc : W.cell? ⟨g, 0, none⟩ = some (.bool true)) (hb : Below w.heap.size w W) :
    bodyPostM Fence.wide 5 Try.prog Try.f5 (fun e w' => e = .returned (.bool true) ∧ Below w.heap.size w w') Exit.ret a W := by
  show LeavesInM _ _ _ _ _ _ _ _ _
  rw [hd]
  exact ⟨_, res_bool Try.results5 _ _ g true hp hc, rfl, hb⟩

theorem leave_two {w W : World} {a : Act} {g D1 D2 : Nat} (hd : a.defers = [{ target := .collected D2, args := #[] }, { target := .collected D1, args := #[] }]) (hp : a.tmps.getD 4 undef = .pointer (some ⟨g, 0, none⟩)) (hc : Blk W g 4 #[.bool true]) (h2 : W.heap[D2]? = some (.deferred (some []))) (h1 : W.heap[D1]? = some (.deferred (some []))) (hne : D1 ≠ D2) (l1 : w.heap.size ≤ D1) (l2 : w.heap.size ≤ D2) (hb : Below w.heap.size w W) :
    bodyPostM Fence.wide 5 Try.prog Try.f5 (fun e w' => e = .returned (.bool true) ∧ Below w.heap.size w w') Exit.ret a W := by
  show LeavesInM _ _ _ _ _ _ _ _ _
  rw [hd]
  have g2 : g ≠ D2 := fun e => by unfold Blk at hc; rw [e, h2] at hc; cases hc
  have g1 : g ≠ D1 := fun e => by unfold Blk at hc; rw [e, h1] at hc; cases hc
  have h1' : (W.putObj D2 (.deferred none)).heap[D1]? = some (.deferred (some [])) := (World.putObj_heap_other hne).trans h1
  have c1 : Blk (W.putObj D2 (.deferred none)) g 4 #[.bool true] := (World.putObj_heap_other g2).trans hc
  have c2 : Blk ((W.putObj D2 (.deferred none)).putObj D1 (.deferred none)) g 4 #[.bool true] := (World.putObj_heap_other g1).trans c1
  refine ⟨by simp, .inl ⟨_, _, rfl, run_takeDeferred h2, ⟨by simp, .inl ⟨_, _, rfl, run_takeDeferred h1', ?_⟩⟩⟩⟩
  exact ⟨_, res_bool Try.results5 _ _ g true hp (c2.cell 0), rfl, (hb.trans (below_put l2)).trans (below_put l1)⟩

set_option maxHeartbeats 16000000 in
set_option maxRecDepth 100000 in
theorem cacheCopies_any (A : Option Addr) (n c : Nat) (l : List CAct) (x : CAct) (w : World) (hr : Reads w w.heap.size 3 A n (avs l)) (hn : n ≤ maxLen) (hs : ∀ x ∈ l, x.name.size ≤ 140737488351232 ∧ x.script.size ≤ 140737488351232) (hx : x.name.size ≤ 140737488351232 ∧ x.script.size ≤ 140737488351232) :
    Calls Try.prog 5 #[.slice A n c, .agg (actV x)] w fun e w' => e = .returned (.bool true) ∧ Below w.heap.size w w' := by
  have k3 := (Blk.new w 39 (actV x)).alloc (.cells #[.bool false] 4)
  have k4 := Blk.new (w.alloc (.cells (actV x) 39)) 4 #[.bool false]
  rw [World.size_alloc] at k4
  have hb0 : Below w.heap.size w ((w.alloc (.cells (actV x) 39)).alloc (.cells #[.bool false] 4)) := ((Below.refl _ w).alloc (Nat.le_refl _) _).alloc (by simp) _
  have HF := hide (few_any (c := c) _ ((hr.below hb0).more hb0.size) hn hs)
  simp only [actV] at k3 k4 hb0 HF ⊢
  refine (callsIn_wide (n := 5)).1 ?_
  refine callsIn_of_wp_marks Try.func5 rfl trivial ?_ rfl
  simp only [Try.ntmps5, List.size_toArray, List.length_cons, List.length_nil, Nat.reduceAdd, Nat.reduceSub, Array.replicate_succ, Array.replicate_zero, List.push_toArray, List.append_toArray, List.nil_append, List.cons_append]
  refine wpIn_wide.2 ?_
  go_upto_region 1 with (fail)
  generalize (w.alloc (.cells #[.int .i64 x.what, .string x.name, .string x.script] 39)).alloc (.cells #[.bool false] 4) = w1 at *
  cases hf : fewB l with
  | false =>
    rw [hf] at HF
    go_wp2_with (first
      | (go_at_call 10; go_must (refine HF.out.mono ?_; rintro e w2 ⟨rfl, hb2⟩))
      | (go_at_call 9; go_must (refine (works_any _).mono ?_; rintro e w3 ⟨rfl, hb3⟩; have k4 := (k4.below hb2 k4.lt).below hb3 (Nat.lt_of_lt_of_le k4.lt hb2.size); have q4 := k4.cell 0; have f4 := k4.frozen 0))
      | fail)
    exact leave_none rfl rfl (k4.set_ 0 (.bool true) |>.cell 0) ((hb0.trans ((hb2.trans (hb3.mono hb2.size)).mono hb0.size)).setCell (p := ⟨w.heap.size + 1, 0, none⟩) (Nat.le_succ _) _)
  | true =>
    rw [hf] at HF
    obtain ⟨hsum, hwh⟩ := few_yes hf
    have HF2 := hide (fun W => few_any (c := 1) _ ((one_act W x).more (show W.heap.size + 1 ≤ (W.alloc (.cells #[.int .i64 x.what, .string x.name, .string x.script] 39)).heap.size by simp)) (by decide) (fun y hy => by rw [List.mem_singleton.1 hy]; exact hx))
    clear hf hs hn hx
    have q30 := k3.cell 0
    have q31 := k3.cell 1
    have q32 := k3.cell 2
    cases hf2 : fewB [x] with
    | false =>
      simp only [hf2] at HF2
      go_wp2_with (first
        | (go_at_call_of 10 (Value.slice A n c); go_must (refine HF.out.mono ?_; rintro e w2 ⟨rfl, hb2⟩; have k3 := k3.below hb2 k3.lt; have q30 := k3.cell 0; have q31 := k3.cell 1; have q32 := k3.cell 2))
        | (go_at_call 10; go_must (refine (HF2.out w2).mono ?_; rintro e w3 ⟨rfl, hb3⟩; have hb3 := ((Below.refl w2.heap.size w2).alloc (Nat.le_refl _) (.cells #[.int .i64 x.what, .string x.name, .string x.script] 39)).trans (hb3.mono (by simp))))
        | (go_at_call 9; go_must (refine (works_any _).mono ?_; rintro e w4 ⟨rfl, hb4⟩; have hb24 := hb2.trans ((hb3.trans (hb4.mono hb3.size)).mono hb2.size); have k4 := k4.below hb24 k4.lt; have q4 := k4.cell 0; have f4 := k4.frozen 0))
        | fail)
      exact leave_none rfl rfl (k4.set_ 0 (.bool true) |>.cell 0) ((hb0.trans (hb24.mono hb0.size)).setCell (p := ⟨w.heap.size + 1, 0, none⟩) (Nat.le_succ _) _)
    | true =>
      simp only [hf2] at HF2
      obtain ⟨hxsum, hxw⟩ := few_yes hf2
      go_upto_region 3 with (first
        | (go_at_call_of 10 (Value.slice A n c); go_must (refine HF.out.mono ?_; rintro e w2 ⟨rfl, hb2⟩; have k3 := k3.below hb2 k3.lt; have q30 := k3.cell 0; have q31 := k3.cell 1; have q32 := k3.cell 2))
        | (go_at_call 10; go_must (refine (HF2.out w2).mono ?_; rintro e w3 ⟨rfl, hb3⟩; have hb3 := ((Below.refl w2.heap.size w2).alloc (Nat.le_refl _) (.cells #[.int .i64 x.what, .string x.name, .string x.script] 39)).trans (hb3.mono (by simp))))
        | fail)
      have hb23 := hb2.trans (hb3.mono hb2.size)
      have hbw3 := hb0.trans (hb23.mono hb0.size)
      have k3 := k3.below hb3 k3.lt
      have k4 := k4.below hb23 k4.lt
      have hr3 := hr.below hbw3
      clear HF HF2 q30 q31 q32 hb0 hb23 hb2 hb3 hr hf2
      obtain ⟨hk1, hk2⟩ := play_keys l
      obtain ⟨hl1, hl2⟩ := play_lens l hsum
      obtain ⟨hk5, hk6⟩ := play_keys (l ++ [x])
      rw [play_one] at hk5 hk6
      have hxw := hxw x (by simp)
      have hxs : x.script.size ≤ 3000 ∧ x.name.size ≤ 3000 := by have := asum_mem (l := [x]) (x := x) (by simp); omega
      have hln := do_len (playS l).1 (playS l).2 x
      go_upto_region 4 with (first
        | (go_at_call 11
           go_must (
           refine (cnew_any w3).mono ?_
           rintro e w4 ⟨g, r1, r2, rfl, hq4, hg, hr1, hr2, hb4⟩))
        | fail)
      have hbw4 := hbw3.trans (hb4.mono hbw3.size)
      have k3 := k3.below hb4 k3.lt
      have k4 := k4.below hb4 k4.lt
      have hC4 := CE.made hq4
      have HP := hide (played_any (c := c) w4 ((hr3.below (hb4.mono hbw3.size)).more hbw4.size) hC4 hsum hwh)
      have hB1 := Nat.le_trans hbw3.size hr1
      have hB2 := Nat.le_trans hbw3.size hr2
      obtain ⟨hglt4, hr1lt, hr2lt, hr12⟩ := hC4.lt
      clear hq4 hr3 hbw3 hb4 hg hr1 hr2
      obtain ⟨S, hS⟩ : ∃ S, S = (playS l).1 := ⟨_, rfl⟩
      obtain ⟨N, hN⟩ : ∃ N, N = (playS l).2 := ⟨_, rfl⟩
      rw [← hS, ← hN] at HP hk5 hk6 hln
      rw [← hS] at hk1 hl1
      rw [← hN] at hk2 hl2
      clear hS hN hsum hwh hxsum
      go_upto_region 5 with (first
        | (go_at_call 12
           go_must (
           refine HP.out.mono ?_
           rintro e w5 ⟨A1, n1, c1, A2, n2, c2, rfl, hC5, hE1, hE2, hM5⟩
           have k6 := Blk.new w5 30 #[.slice A1 n1 c1, .slice A2 n2 c2]))
        | fail)
      have hn1 := hE1.len
      have hn2 := hE2.len
      subst hn1 hn2
      have k3 := hC4.blk hM5 k3
      have k4 := hC4.blk hM5 k4
      have hbw5 := hbw4.trans (hM5.below hbw4.size hB1 hB2)
      have hz45 := hM5.size
      have hb6 : Below w5.heap.size w5 (w5.alloc (.cells #[.slice A1 S.length c1, .slice A2 N.length c2] 30)) := (Below.refl _ w5).alloc (Nat.le_refl _) _
      have hz6 : w5.heap.size < (w5.alloc (.cells #[.slice A1 S.length c1, .slice A2 N.length c2] 30)).heap.size := by simp
      obtain ⟨b6, hb6e⟩ : ∃ b, b = w5.heap.size := ⟨_, rfl⟩
      rw [← hb6e] at k6
      simp only [← hb6e]
      have HB6 := hide hb6e
      clear hb6e HP hM5 hC4
      generalize w5.alloc (.cells #[.slice A1 S.length c1, .slice A2 N.length c2] 30) = w6 at *
      have hC6 := hC5.below hb6
      have hE1 := own_below hE1 hb6
      have hE2 := own_below hE2 hb6
      have k3 := k3.below hb6 k3.lt
      have k4 := k4.below hb6 k4.lt
      have hbw6 := hbw5.trans (hb6.mono hbw5.size)
      have hz46 := Nat.le_trans hz45 hb6.size
      clear hC5 hb6 hbw4 hbw5 hz45 hz6
      have HCp := hide (ccopy_any w6 hC6)
      go_upto_region 6 with (first
        | (go_at_call 17
           go_must (
           refine HCp.out.mono ?_
           rintro e w7 ⟨g', r1', r2', rfl, hD7, hb7, hg', hr1', hr2'⟩))
        | fail)
      have hC7 := hC6.below hb7
      have hE1 := own_below hE1 hb7
      have hE2 := own_below hE2 hb7
      have k3 := k3.below hb7 k3.lt
      have k4 := k4.below hb7 k4.lt
      have k6 := k6.below hb7 k6.lt
      have hbw7 := hbw6.trans (hb7.mono hbw6.size)
      have hz47 := Nat.le_trans hz46 hb7.size
      have e1 : r1' ≠ r1 := by omega
      have e2 : r1' ≠ r2 := by omega
      have e3 : r2' ≠ r1 := by omega
      have e4 : r2' ≠ r2 := by omega
      have HAl := hide (call_any w7 hC7 (by omega) hk1)
      clear HCp hC6 hbw6 hb7 hz46 hg' hr1' hr2'
      go_upto_region 7 with (first
        | (go_at_call 18
           go_must (
           refine HAl.out.mono ?_
           rintro e w8 ⟨rfl, hA8, hb8⟩))
        | fail)
      have hC8 := hC7.below hb8
      have hD8 := hD7.below hb8
      have hE1 := own_below hE1 hb8
      have hE2 := own_below hE2 hb8
      have k3 := k3.below hb8 k3.lt
      have k4 := k4.below hb8 k4.lt
      have k6 := k6.below hb8 k6.lt
      have hbw8 := hbw7.trans (hb8.mono hbw7.size)
      obtain ⟨lo, hlo⟩ : ∃ z, z = w7.heap.size := ⟨_, rfl⟩
      obtain ⟨hi, hhi⟩ : ∃ z, z = w8.heap.size := ⟨_, rfl⟩
      rw [← hlo, ← hhi] at hA8
      rw [← hlo] at hz47
      simp only [← hlo]
      have hhi8 : hi ≤ w8.heap.size := by rw [hhi]; exact Nat.le_refl _
      have hlow : w.heap.size ≤ lo := by rw [hlo]; exact hbw7.size
      have hlohi : lo ≤ hi := by rw [hlo, hhi]; exact hb8.size
      clear hlo hhi HAl hC7 hD7 hb8 hbw7
      have hdS : (decide (S = S) && decide (N = N)) = true := by simp
      have HS1 := csame_any w8 hC8 hD8 hr12 (by omega) (by omega) (by omega) (by omega) hk1 hk2 hk1 hk2
      have HS2 := fun W (hb : Below w8.heap.size w8 W) => csame_any W (hD8.below hb) (hC8.below hb) (by have := hD8.lt.2.2.2; exact this) (by omega) (by omega) (by omega) (by omega) hk1 hk2 hk1 hk2
      simp only [hdS] at HS1 HS2
      have HS1 := hide HS1
      have HS2 := hide HS2
      clear hdS
      have T1 := hide True.intro
      go_upto_region 9 with (first
        | (go_at_call 19; have _t := T1; go_must (refine HS1.out.mono ?_; rintro e w9 ⟨rfl, hb9⟩; clear T1 _t))
        | (go_at_call 19; go_must (refine (HS2.out w9 hb9).mono ?_; rintro e w10 ⟨rfl, hb10⟩))
        | fail)
      have hb810 := hb9.trans (hb10.mono hb9.size)
      have hC := hC8.below hb810
      have hD := hD8.below hb810
      have hE1 := own_below hE1 hb810
      have hE2 := own_below hE2 hb810
      have k3 := k3.below hb810 k3.lt
      have k4 := k4.below hb810 k4.lt
      have k6 := k6.below hb810 k6.lt
      have hA := hA8.keeps (Keeps.below hb810 hhi8)
      have hbw10 := hbw8.trans (hb810.mono hbw8.size)
      have hhi10 := Nat.le_trans hhi8 hb810.size
      have hz10 : w4.heap.size ≤ w10.heap.size := by omega
      clear HS1 HS2 hb9 hb10 hb810 hC8 hD8 hA8 hbw8 hhi8
      have q30 := k3.cell 0
      have q31 := k3.cell 1
      have q32 := k3.cell 2
      have q60 := k6.cell 0
      have q61 := k6.cell 1
      have HDo := hide (rdo_any (x := x) w10 hE1 hE2 hz10 (by omega) (by omega) hxw.1 hxw.2 (by omega) (by omega))
      go_upto_region 10 with (first
        | (go_at_call 20
           go_must (
           refine HDo.out.mono ?_
           rintro e w11 ⟨A5, n5, c5, A6, n6, c6, rfl, hF1, hF2, hb11⟩
           have k10 := Blk.new w11 30 #[.slice A5 n5 c5, .slice A6 n6 c6]))
        | fail)
      have hb12 := hb11.alloc hb11.size (.cells #[.slice A5 n5 c5, .slice A6 n6 c6] 30)
      have hb1112 : Below w11.heap.size w11 (w11.alloc (.cells #[.slice A5 n5 c5, .slice A6 n6 c6] 30)) := (Below.refl _ w11).alloc (Nat.le_refl _) _
      have hF1 : EOwn _ _ _ _ _ _ := own_below hF1 hb1112
      have hF2 : EOwn _ _ _ _ _ _ := own_below hF2 hb1112
      obtain ⟨b10, hb10e⟩ : ∃ b, b = w11.heap.size := ⟨_, rfl⟩
      rw [← hb10e] at k10
      simp only [← hb10e]
      have hb10hi : hi ≤ b10 := by rw [hb10e]; have := hb11.size; omega
      clear hb10e hb1112 hb11 HDo q30 q31 q32 q60 q61
      generalize w11.alloc (.cells #[.slice A5 n5 c5, .slice A6 n6 c6] 30) = w12 at *
      have hC := hC.below hb12
      have hD := hD.below hb12
      have hE1 : EOwn _ _ _ _ _ _ := own_below hE1 hb12
      have hE2 : EOwn _ _ _ _ _ _ := own_below hE2 hb12
      have k3 := k3.below hb12 k3.lt
      have k4 := k4.below hb12 k4.lt
      have k6 := k6.below hb12 k6.lt
      have hA := hA.keeps (Keeps.below hb12 hhi10)
      have hbw12 := hbw10.trans (hb12.mono hbw10.size)
      have hhi12 := Nat.le_trans hhi10 hb12.size
      clear hb12 hbw10 hhi10 hz10
      have q30 := k3.cell 0
      have q31 := k3.cell 1
      have q32 := k3.cell 2
      have HDl := hide (ldo_any (x := x) w12 hC hxw.1 hxw.2 (by omega) (by omega))
      go_upto_region 11 with (first
        | (go_at_call 21
           go_must (
           refine HDl.out.mono ?_
           rintro e w13 ⟨rfl, hC13, hM13⟩))
        | fail)
      have hD := CE.mk hC hD hM13 e1 e2 e3 e4
      have hE1 := EOwn.mk hC hM13 hE1
      have hE2 := EOwn.mk hC hM13 hE2
      have hF1 := EOwn.mk hC hM13 hF1
      have hF2 := EOwn.mk hC hM13 hF2
      have k4 := hC.blk hM13 k4
      have k6 := hC.blk hM13 k6
      have k10 := hC.blk hM13 k10
      have hA := hA.keeps (w' := w13) ⟨hM13.size, fun k h1 h2 => hM13.block k (by omega) (by omega) (by omega)⟩
      have hbw13 := hbw12.trans (hM13.below hbw12.size hB1 hB2)
      have hhi13 := Nat.le_trans hhi12 hM13.size
      clear q30 q31 q32 HDl hC hM13 hbw12 hhi12 k3
      have hn5 := hF1.len
      have hn6 := hF2.len
      subst hn5 hn6
      have hl5 : (doS S N x).length ≤ 61 := by omega
      have hl6 : (doN S N x).length ≤ 61 := by omega
      clear hln
      generalize doS S N x = S' at *
      generalize doN S N x = N' at *
      have hb14 : Below w13.heap.size w13 (w13.alloc (.cells #[.int .i64 0] 3)) := (Below.refl _ w13).alloc (Nat.le_refl _) _
      have k13 := Blk.new w13 3 #[.int .i64 0]
      go_wp2_with fail
      obtain ⟨b13, hb13e⟩ : ∃ b, b = w13.heap.size := ⟨_, rfl⟩
      rw [← hb13e] at k13
      simp only [← hb13e]
      have hb13hi : hi ≤ b13 := by rw [hb13e]; exact hhi13
      generalize w13.alloc (.cells #[.int .i64 0] 3) = w14 at *
      have hC := hC13.below hb14
      have hD := hD.below hb14
      have hE1 : EOwn _ _ _ _ _ _ := own_below hE1 hb14
      have hE2 : EOwn _ _ _ _ _ _ := own_below hE2 hb14
      have hF1 : EOwn _ _ _ _ _ _ := own_below hF1 hb14
      have hF2 : EOwn _ _ _ _ _ _ := own_below hF2 hb14
      have k4 := k4.below hb14 k4.lt
      have k6 := k6.below hb14 k6.lt
      have k10 := k10.below hb14 k10.lt
      have hA := hA.keeps (Keeps.below hb14 hhi13)
      have hbw14 := hbw13.trans (hb14.mono hbw13.size)
      have hhi14 := Nat.le_trans hhi13 hb14.size
      clear hC13 hb14 hbw13 hhi13 hb13e
      have hD13 := hD
      clear hD
      refine (wpIn_wide (n := 5)).1 ?_
      have hMr : MK b13 b13 w14 w14 := MK.refl _ _ _
      refine range_toldP rfl (by omega) (gf := 38) (lb := #[.pointer (some ⟨lo, 0, none⟩), .pointer (some ⟨lo + 1, 0, none⟩)]) rfl trivial (enters_of Try.func38 (by kernel_rfl) rfl)
        (callS_told _ w14 hA hhi14 (by omega)) Keeps.trans ?keepP (fun _ => rfl)
        (fun pre W => Blk W b13 3 #[.int .i64 (pre.length : Nat)] ∧ MK b13 b13 w14 W) ?own ?step ⟨k13, hMr⟩ ?a1 ?assign ?body ?done
      case keepP =>
        intro W k o o' hk ho hc _
        exact ⟨by simp [World.putObj], fun q _ hq => World.putObj_heap_other (by omega)⟩
      case own =>
        rintro pre A2 B2 row ⟨z1, z2⟩ hgr hr
        exact ⟨z1.grownN hgr (fun q e => (hr q e).2), z2.grown1 hgr (fun q e => (hr q e).1)⟩
      case step =>
        exact fun x A B row hs hg hr => hs
      case assign =>
        intro k y W K hK
        unfold enc2
        gi_wp2
        exact hK
      case body =>
        rintro lp pre y W ⟨z1, z2⟩ ⟨hy1, hy2⟩
        have k6W := k6.mk1 z2 (k6.ne_ k13 (by decide))
        have q60 := k6W.cell 0
        have q13 := z1.cell 0
        have f13 := z1.frozen 0
        have hlt : pre.length < S.length := (List.getElem?_eq_some_iff.1 hy2).1
        obtain ⟨bE, oE, y', rfl, hbE, hlx, v1, v2⟩ := (Reads.of_own2 (EOwn.mk1 hE1 k13 z2)).ent hlt
        obtain rfl : y = y' := by rw [hlx] at hy2; injection hy2 with hy2; exact hy2.symm
        have d0 : decide ((S.length : Int) ≤ (pre.length : Int)) = false := decide_eq_false (by omega)
        have hlI : (pre.length : Int) < (S.length : Int) := by omega
        have h0I : (0 : Int) ≤ (pre.length : Int) := by omega
        have hwp : IntKind.i64.wrap ((pre.length : Int) + 1) = (pre.length : Int) + 1 := IntWalk.i64_in _ (by omega)
        have hq := fun w => neq_ent_same y.1 y.2 w
        clear hy1 hy2 hlx
        gi_wp2_with fail
        refine ⟨(KeepsOthers.setCell _ _ _).from _, ⟨by simp, fun q h1 h2 => Below.heap_setCell W ⟨b13, 0, none⟩ _ q (by show q ≠ b13; omega)⟩, ?_, z2.set1 _⟩
        have := z1.set_ 0 (.int .i64 ((pre.length : Int) + 1))
        rw [List.length_append]
        exact this
      case done =>
        rintro D1 xs W hD hS ⟨z1, z2⟩ hK
        rw [hS] at z1
        clear hS
        go_wp2_with fail
        have hb15 : Below W.heap.size W (W.alloc (.cells #[.int .i64 0] 3)) := (Below.refl _ W).alloc (Nat.le_refl _) _
        have k16 := Blk.new W 3 #[.int .i64 0]
        have hbwW := hbw14.trans (z2.below hbw14.size (by omega) (by omega))
        have hzW := z2.size
        have hC := (hC.mk1 k13 z2).below hb15
        have hD' := (hD13.mk1 k13 z2).below hb15
        have hE1 : EOwn _ _ _ _ _ _ := own_below (EOwn.mk1 hE1 k13 z2) hb15
        have hE2 : EOwn _ _ _ _ _ _ := own_below (EOwn.mk1 hE2 k13 z2) hb15
        have hF1 : EOwn _ _ _ _ _ _ := own_below (EOwn.mk1 hF1 k13 z2) hb15
        have hF2 : EOwn _ _ _ _ _ _ := own_below (EOwn.mk1 hF2 k13 z2) hb15
        have k4 := (k4.mk1 z2 (k4.ne_ k13 (by decide))).alloc (.cells #[.int .i64 0] 3)
        have k6 := (k6.mk1 z2 (k6.ne_ k13 (by decide))).alloc (.cells #[.int .i64 0] 3)
        have k10 := (k10.mk1 z2 (k10.ne_ k13 (by decide))).alloc (.cells #[.int .i64 0] 3)
        have k13' := z1.alloc (.cells #[.int .i64 0] 3)
        have h1316 : b13 ≠ W.heap.size := Nat.ne_of_lt z1.lt
        have hA := (hA.keeps (z2.keeps hb13hi hhi14)).keeps (Keeps.below hb15 (Nat.le_trans hhi14 hzW))
        have hbw15 := hbwW.trans (hb15.mono hbwW.size)
        have hD1W : D1 < W.heap.size := (Array.getElem?_eq_some_iff.1 hK).1
        have hK1 : (W.alloc (.cells #[.int .i64 0] 3)).heap[D1]? = some (.deferred (some [])) := (Below.heap_alloc W _ D1 hD1W).trans hK
        have lD1 : w.heap.size ≤ D1 := Nat.le_trans hbw14.size hD
        have hhi15 : hi ≤ W.heap.size := Nat.le_trans hhi14 hzW
        obtain ⟨b16, hb16e⟩ : ∃ b, b = W.heap.size := ⟨_, rfl⟩
        rw [← hb16e] at k16 h1316 hD1W hhi15
        simp only [← hb16e]
        have hb16s : w.heap.size ≤ b16 := by rw [hb16e]; exact hbwW.size
        have hb15s : b16 < (W.alloc (.cells #[.int .i64 0] 3)).heap.size := by rw [hb16e]; simp
        clear z1 z2 k13 hb15 hbwW hzW hK hb16e hbw14 hhi14
        generalize W.alloc (.cells #[.int .i64 0] 3) = w15 at *
        have hMr : MK b16 b16 w15 w15 := MK.refl _ _ _
        refine (wpIn_wide (n := 5)).1 ?_
        refine wpIn_rangeFunc_ownF rfl (by omega) (gf := 38) (lb := #[.pointer (some ⟨lo, 0, none⟩), .pointer (some ⟨lo + 1, 0, none⟩)]) rfl trivial (enters_of Try.func38 (by kernel_rfl) rfl)
          (callS_stops _ w15 hA (by omega) (by omega)) Keeps.trans ?keepP2 (Below.refl _ _) (fun _ => rfl)
          (fun pre V => pre = [] ∧ Blk V b16 3 #[.int .i64 0] ∧ MK b16 b16 w15 V) (fun cc pre V => cc = Code.exit 2 ∧ Blk V b16 3 #[.int .i64 1] ∧ MK b16 b16 w15 V) ?own2 ?ownx ⟨rfl, k16, hMr⟩ ?a2 ?assign2 ?body2 ?done2 ?stop2
        case keepP2 =>
          intro V k o o' hk ho hc _
          exact ⟨by simp [World.putObj], fun q _ hq => World.putObj_heap_other (by omega)⟩
        case own2 =>
          rintro pre A2 B2 row ⟨y0, y1, y2⟩ hgr hr
          exact ⟨y0, y1.grownN hgr (fun q e => (hr q e).2), y2.grown1 hgr (fun q e => (hr q e).1)⟩
        case ownx =>
          rintro cc pre A2 B2 row ⟨y0, y1, y2⟩ hgr hr
          exact ⟨y0, y1.grownN hgr (fun q e => (hr q e).2), y2.grown1 hgr (fun q e => (hr q e).1)⟩
        case assign2 =>
          intro k y V K hK
          unfold enc2
          gi_wp2
          exact hK
        case body2 =>
          rintro lp pre y V ⟨rfl, y1, y2⟩ _
          have q16 := y1.cell 0
          have f16 := y1.frozen 0
          gi_wp2_with fail
          exact ⟨KeepsOthers.setCell _ _ _, rfl, y1.set_ 0 _, y2.set1 _⟩
        case done2 =>
          rintro D2 xs2 V hD2 hS2 ⟨y0, y1, y2⟩ hK2
          have hzm : ((0 : Int) == min 1 (S.length : Int)) = true := by rw [← hS2, y0]; rfl
          clear hS2 y0
          have C := hC.mk1 k16 y2
          have Dd := hD'.mk1 k16 y2
          have R1 := Reads.of_own2 (EOwn.mk1 hE1 k16 y2)
          have R2 := Reads.of_own2 (EOwn.mk1 hE2 k16 y2)
          have R5 := Reads.of_own2 (EOwn.mk1 hF1 k16 y2)
          have R6 := Reads.of_own2 (EOwn.mk1 hF2 k16 y2)
          have k4 := k4.mk1 y2 (k4.ne_ k16 (by decide))
          have k6 := k6.mk1 y2 (k6.ne_ k16 (by decide))
          have k10 := k10.mk1 y2 (k10.ne_ k16 (by decide))
          have k13 := k13'.mk1 y2 h1316
          have hbV := hbw15.trans (y2.below hbw15.size hb16s hb16s)
          have hK1V : V.heap[D1]? = some (.deferred (some [])) := (y2.block D1 (by omega) (by omega) (by omega)).trans hK1
          have hD12 : D1 ≠ D2 := by omega
          have lD2 : w.heap.size ≤ D2 := by omega
          have hD1V : D1 < V.heap.size := (Array.getElem?_eq_some_iff.1 hK1V).1
          have hD2V : D2 < V.heap.size := (Array.getElem?_eq_some_iff.1 hK2).1
          have e0 : ((S.length : Int) == (S.length : Int)) = true := beq_self_eq_true _
          have e0' : (((S.length : Nat) : Int) == (S.length : Int)) = true := beq_self_eq_true _
          obtain ⟨p, hp⟩ : ∃ p, p = decide (S' = S) := ⟨_, rfl⟩
          obtain ⟨q, hq⟩ : ∃ q, q = decide (N' = N) := ⟨_, rfl⟩
          have hp' : decide (S = S') = p := by rw [hp]; exact decide_eq_decide.2 eq_comm
          have hq' : decide (N = N') = q := by rw [hq]; exact decide_eq_decide.2 eq_comm
          have HE1 := entries_any (c := c5) (c' := c1) V R5 R1 (by omega) (by omega)
          have HE2 := fun U (hU : Below V.heap.size V U) => entries_any (c := c6) (c' := c2) U ((R6.below hU).more hU.size) ((R2.below hU).more hU.size) (by omega) (by omega)
          have HI1 := hide (fun U (hU : Below V.heap.size V U) => is_any (c1 := c1) (c2 := c2) U (Dd.below hU) ((R1.below hU).more hU.size) ((R2.below hU).more hU.size) (by omega) (by omega) hk1 hk2)
          have HI2 := hide (fun U (hU : Below V.heap.size V U) => is_any (c1 := c5) (c2 := c6) U (C.below hU) ((R5.below hU).more hU.size) ((R6.below hU).more hU.size) (by omega) (by omega) hk5 hk6)
          have HS1 := fun U (hU : Below V.heap.size V U) => csame_any U (C.below hU) (Dd.below hU) hr12 (by omega) (by omega) (by omega) (by omega) hk5 hk6 hk1 hk2
          have HS2 := fun U (hU : Below V.heap.size V U) => csame_any U (Dd.below hU) (C.below hU) (by have := Dd.lt.2.2.2; exact this) (by omega) (by omega) (by omega) (by omega) hk1 hk2 hk5 hk6
          simp only [hp', hq'] at HS2
          simp only [← hp, ← hq] at HE1 HE2 HS1
          have hU : Below V.heap.size V V := Below.refl _ _
          have HMN := hide hzm
          clear hp hq hp' hq' hC hD' hE1 hE2 hF1 hF2 k16 y2 hbw15 hK1 hMr hA k13'
          have k16 := y1
          clear y1
          have q60 := k6.cell 0
          have q61 := k6.cell 1
          have g0 := k10.cell 0
          have g1 := k10.cell 1
          have q13 := k13.cell 0
          have q16 := k16.cell 0
          have f4 := k4.frozen 0
          have q4 := k4.cell 0
          have T3 := hide True.intro
          cases p <;> cases q
          all_goals
            simp only [Bool.and_self, Bool.and_true, Bool.and_false, Bool.true_and, Bool.false_and] at HS1 HS2
            have HE1 := hide HE1
            have HE2 := hide HE2
            have HS1 := hide HS1
            have HS2 := hide HS2
            have hzm := HMN.out
            go_wp2_with (first
              | (go_at_call_of 22 (Value.slice A5 S'.length c5); go_must (refine HE1.out.mono ?_; rintro e U1 ⟨rfl, hn1⟩; have hU := hU.trans (hn1.mono hU.size); have k4 := k4.below hn1 k4.lt; have k6 := k6.below hn1 k6.lt; have k10 := k10.below hn1 k10.lt; have k13 := k13.below hn1 k13.lt; have k16 := k16.below hn1 k16.lt; have q60 := k6.cell 0; have q61 := k6.cell 1; have g0 := k10.cell 0; have g1 := k10.cell 1; have q13 := k13.cell 0; have q16 := k16.cell 0; have f4 := k4.frozen 0; have q4 := k4.cell 0))
              | (go_at_call_of 22 (Value.slice A6 N'.length c6); go_must (refine (HE2.out _ hU).mono ?_; rintro e U2 ⟨rfl, hn2⟩; have hU := hU.trans (hn2.mono hU.size); have k4 := k4.below hn2 k4.lt; have k6 := k6.below hn2 k6.lt; have k10 := k10.below hn2 k10.lt; have k13 := k13.below hn2 k13.lt; have k16 := k16.below hn2 k16.lt; have q60 := k6.cell 0; have q61 := k6.cell 1; have g0 := k10.cell 0; have g1 := k10.cell 1; have q13 := k13.cell 0; have q16 := k16.cell 0; have f4 := k4.frozen 0; have q4 := k4.cell 0))
              | (go_at_call_of 16 (Value.pointer (some (Addr.mk g' 0 none))); go_must (refine (HI1.out _ hU).mono ?_; rintro e U3 ⟨rfl, hn3⟩; have hU := hU.trans (hn3.mono hU.size); have k4 := k4.below hn3 k4.lt; have k6 := k6.below hn3 k6.lt; have k10 := k10.below hn3 k10.lt; have k13 := k13.below hn3 k13.lt; have k16 := k16.below hn3 k16.lt; have q60 := k6.cell 0; have q61 := k6.cell 1; have g0 := k10.cell 0; have g1 := k10.cell 1; have q13 := k13.cell 0; have q16 := k16.cell 0; have f4 := k4.frozen 0; have q4 := k4.cell 0))
              | (go_at_call_of 16 (Value.pointer (some (Addr.mk g 0 none))); go_must (refine (HI2.out _ hU).mono ?_; rintro e U4 ⟨rfl, hn4⟩; have hU := hU.trans (hn4.mono hU.size); have k4 := k4.below hn4 k4.lt; have k6 := k6.below hn4 k6.lt; have k10 := k10.below hn4 k10.lt; have k13 := k13.below hn4 k13.lt; have k16 := k16.below hn4 k16.lt; have q60 := k6.cell 0; have q61 := k6.cell 1; have g0 := k10.cell 0; have g1 := k10.cell 1; have q13 := k13.cell 0; have q16 := k16.cell 0; have f4 := k4.frozen 0; have q4 := k4.cell 0))
              | (go_at_call 19; have _t := T3; go_must (refine (HS1.out _ hU).mono ?_; rintro e U5 ⟨rfl, hn5⟩; clear T3 _t; have hU := hU.trans (hn5.mono hU.size); have k4 := k4.below hn5 k4.lt; have k6 := k6.below hn5 k6.lt; have k10 := k10.below hn5 k10.lt; have k13 := k13.below hn5 k13.lt; have k16 := k16.below hn5 k16.lt; have q60 := k6.cell 0; have q61 := k6.cell 1; have g0 := k10.cell 0; have g1 := k10.cell 1; have q13 := k13.cell 0; have q16 := k16.cell 0; have f4 := k4.frozen 0; have q4 := k4.cell 0))
              | (go_at_call 19; go_must (refine (HS2.out _ hU).mono ?_; rintro e U6 ⟨rfl, hn6⟩; have hU := hU.trans (hn6.mono hU.size); have k4 := k4.below hn6 k4.lt; have k6 := k6.below hn6 k6.lt; have k10 := k10.below hn6 k10.lt; have k13 := k13.below hn6 k13.lt; have k16 := k16.below hn6 k16.lt; have q60 := k6.cell 0; have q61 := k6.cell 1; have g0 := k10.cell 0; have g1 := k10.cell 1; have q13 := k13.cell 0; have q16 := k16.cell 0; have f4 := k4.frozen 0; have q4 := k4.cell 0))
              | (go_at_call 9; go_must (refine (works_any _).mono ?_; rintro e U7 ⟨rfl, hn7⟩; have hU := hU.trans (hn7.mono hU.size); have k4 := k4.below hn7 k4.lt; have k6 := k6.below hn7 k6.lt; have k10 := k10.below hn7 k10.lt; have k13 := k13.below hn7 k13.lt; have k16 := k16.below hn7 k16.lt; have q60 := k6.cell 0; have q61 := k6.cell 1; have g0 := k10.cell 0; have g1 := k10.cell 1; have q13 := k13.cell 0; have q16 := k16.cell 0; have f4 := k4.frozen 0; have q4 := k4.cell 0))
              | fail)
            exact leave_two (g := w.heap.size + 1) rfl rfl (k4.set_ 0 (.bool true)) ((Below.heap_setCell _ _ _ D2 (by show D2 ≠ w.heap.size + 1; intro e; subst e; have := hU.block _ hD2V; rw [hK2] at this; unfold Blk at k4; rw [k4] at this; cases this)).trans ((hU.block D2 hD2V).trans hK2)) ((Below.heap_setCell _ _ _ D1 (by show D1 ≠ w.heap.size + 1; intro e; subst e; have := hU.block _ hD1V; rw [hK1V] at this; unfold Blk at k4; rw [k4] at this; cases this)).trans ((hU.block D1 hD1V).trans hK1V)) hD12 lD1 lD2 ((hbV.trans (hU.mono hbV.size)).setCell (p := ⟨w.heap.size + 1, 0, none⟩) (Nat.le_succ _) _)
        case stop2 =>
          rintro D2 cc pre V hD2 hSp ⟨rfl, y1, y2⟩ hK2
          have hzm : ((1 : Int) == min 1 (S.length : Int)) = true := by rw [Int.min_eq_left (by omega)]; rfl
          clear hSp
          refine wpIn_wide.2 ?_
          have C := hC.mk1 k16 y2
          have Dd := hD'.mk1 k16 y2
          have R1 := Reads.of_own2 (EOwn.mk1 hE1 k16 y2)
          have R2 := Reads.of_own2 (EOwn.mk1 hE2 k16 y2)
          have R5 := Reads.of_own2 (EOwn.mk1 hF1 k16 y2)
          have R6 := Reads.of_own2 (EOwn.mk1 hF2 k16 y2)
          have k4 := k4.mk1 y2 (k4.ne_ k16 (by decide))
          have k6 := k6.mk1 y2 (k6.ne_ k16 (by decide))
          have k10 := k10.mk1 y2 (k10.ne_ k16 (by decide))
          have k13 := k13'.mk1 y2 h1316
          have hbV := hbw15.trans (y2.below hbw15.size hb16s hb16s)
          have hK1V : V.heap[D1]? = some (.deferred (some [])) := (y2.block D1 (by omega) (by omega) (by omega)).trans hK1
          have hD12 : D1 ≠ D2 := by omega
          have lD2 : w.heap.size ≤ D2 := by omega
          have hD1V : D1 < V.heap.size := (Array.getElem?_eq_some_iff.1 hK1V).1
          have hD2V : D2 < V.heap.size := (Array.getElem?_eq_some_iff.1 hK2).1
          have e0 : ((S.length : Int) == (S.length : Int)) = true := beq_self_eq_true _
          have e0' : (((S.length : Nat) : Int) == (S.length : Int)) = true := beq_self_eq_true _
          obtain ⟨p, hp⟩ : ∃ p, p = decide (S' = S) := ⟨_, rfl⟩
          obtain ⟨q, hq⟩ : ∃ q, q = decide (N' = N) := ⟨_, rfl⟩
          have hp' : decide (S = S') = p := by rw [hp]; exact decide_eq_decide.2 eq_comm
          have hq' : decide (N = N') = q := by rw [hq]; exact decide_eq_decide.2 eq_comm
          have HE1 := entries_any (c := c5) (c' := c1) V R5 R1 (by omega) (by omega)
          have HE2 := fun U (hU : Below V.heap.size V U) => entries_any (c := c6) (c' := c2) U ((R6.below hU).more hU.size) ((R2.below hU).more hU.size) (by omega) (by omega)
          have HI1 := hide (fun U (hU : Below V.heap.size V U) => is_any (c1 := c1) (c2 := c2) U (Dd.below hU) ((R1.below hU).more hU.size) ((R2.below hU).more hU.size) (by omega) (by omega) hk1 hk2)
          have HI2 := hide (fun U (hU : Below V.heap.size V U) => is_any (c1 := c5) (c2 := c6) U (C.below hU) ((R5.below hU).more hU.size) ((R6.below hU).more hU.size) (by omega) (by omega) hk5 hk6)
          have HS1 := fun U (hU : Below V.heap.size V U) => csame_any U (C.below hU) (Dd.below hU) hr12 (by omega) (by omega) (by omega) (by omega) hk5 hk6 hk1 hk2
          have HS2 := fun U (hU : Below V.heap.size V U) => csame_any U (Dd.below hU) (C.below hU) (by have := Dd.lt.2.2.2; exact this) (by omega) (by omega) (by omega) (by omega) hk1 hk2 hk5 hk6
          simp only [hp', hq'] at HS2
          simp only [← hp, ← hq] at HE1 HE2 HS1
          have hU : Below V.heap.size V V := Below.refl _ _
          have HMN := hide hzm
          clear hp hq hp' hq' hC hD' hE1 hE2 hF1 hF2 k16 y2 hbw15 hK1 hMr hA k13'
          have k16 := y1
          clear y1
          have q60 := k6.cell 0
          have q61 := k6.cell 1
          have g0 := k10.cell 0
          have g1 := k10.cell 1
          have q13 := k13.cell 0
          have q16 := k16.cell 0
          have f4 := k4.frozen 0
          have q4 := k4.cell 0
          have T3 := hide True.intro
          cases p <;> cases q
          all_goals
            simp only [Bool.and_self, Bool.and_true, Bool.and_false, Bool.true_and, Bool.false_and] at HS1 HS2
            have HE1 := hide HE1
            have HE2 := hide HE2
            have HS1 := hide HS1
            have HS2 := hide HS2
            have hzm := HMN.out
            go_wp2_with (first
              | (go_at_call_of 22 (Value.slice A5 S'.length c5); go_must (refine HE1.out.mono ?_; rintro e U1 ⟨rfl, hn1⟩; have hU := hU.trans (hn1.mono hU.size); have k4 := k4.below hn1 k4.lt; have k6 := k6.below hn1 k6.lt; have k10 := k10.below hn1 k10.lt; have k13 := k13.below hn1 k13.lt; have k16 := k16.below hn1 k16.lt; have q60 := k6.cell 0; have q61 := k6.cell 1; have g0 := k10.cell 0; have g1 := k10.cell 1; have q13 := k13.cell 0; have q16 := k16.cell 0; have f4 := k4.frozen 0; have q4 := k4.cell 0))
              | (go_at_call_of 22 (Value.slice A6 N'.length c6); go_must (refine (HE2.out _ hU).mono ?_; rintro e U2 ⟨rfl, hn2⟩; have hU := hU.trans (hn2.mono hU.size); have k4 := k4.below hn2 k4.lt; have k6 := k6.below hn2 k6.lt; have k10 := k10.below hn2 k10.lt; have k13 := k13.below hn2 k13.lt; have k16 := k16.below hn2 k16.lt; have q60 := k6.cell 0; have q61 := k6.cell 1; have g0 := k10.cell 0; have g1 := k10.cell 1; have q13 := k13.cell 0; have q16 := k16.cell 0; have f4 := k4.frozen 0; have q4 := k4.cell 0))
              | (go_at_call_of 16 (Value.pointer (some (Addr.mk g' 0 none))); go_must (refine (HI1.out _ hU).mono ?_; rintro e U3 ⟨rfl, hn3⟩; have hU := hU.trans (hn3.mono hU.size); have k4 := k4.below hn3 k4.lt; have k6 := k6.below hn3 k6.lt; have k10 := k10.below hn3 k10.lt; have k13 := k13.below hn3 k13.lt; have k16 := k16.below hn3 k16.lt; have q60 := k6.cell 0; have q61 := k6.cell 1; have g0 := k10.cell 0; have g1 := k10.cell 1; have q13 := k13.cell 0; have q16 := k16.cell 0; have f4 := k4.frozen 0; have q4 := k4.cell 0))
              | (go_at_call_of 16 (Value.pointer (some (Addr.mk g 0 none))); go_must (refine (HI2.out _ hU).mono ?_; rintro e U4 ⟨rfl, hn4⟩; have hU := hU.trans (hn4.mono hU.size); have k4 := k4.below hn4 k4.lt; have k6 := k6.below hn4 k6.lt; have k10 := k10.below hn4 k10.lt; have k13 := k13.below hn4 k13.lt; have k16 := k16.below hn4 k16.lt; have q60 := k6.cell 0; have q61 := k6.cell 1; have g0 := k10.cell 0; have g1 := k10.cell 1; have q13 := k13.cell 0; have q16 := k16.cell 0; have f4 := k4.frozen 0; have q4 := k4.cell 0))
              | (go_at_call 19; have _t := T3; go_must (refine (HS1.out _ hU).mono ?_; rintro e U5 ⟨rfl, hn5⟩; clear T3 _t; have hU := hU.trans (hn5.mono hU.size); have k4 := k4.below hn5 k4.lt; have k6 := k6.below hn5 k6.lt; have k10 := k10.below hn5 k10.lt; have k13 := k13.below hn5 k13.lt; have k16 := k16.below hn5 k16.lt; have q60 := k6.cell 0; have q61 := k6.cell 1; have g0 := k10.cell 0; have g1 := k10.cell 1; have q13 := k13.cell 0; have q16 := k16.cell 0; have f4 := k4.frozen 0; have q4 := k4.cell 0))
              | (go_at_call 19; go_must (refine (HS2.out _ hU).mono ?_; rintro e U6 ⟨rfl, hn6⟩; have hU := hU.trans (hn6.mono hU.size); have k4 := k4.below hn6 k4.lt; have k6 := k6.below hn6 k6.lt; have k10 := k10.below hn6 k10.lt; have k13 := k13.below hn6 k13.lt; have k16 := k16.below hn6 k16.lt; have q60 := k6.cell 0; have q61 := k6.cell 1; have g0 := k10.cell 0; have g1 := k10.cell 1; have q13 := k13.cell 0; have q16 := k16.cell 0; have f4 := k4.frozen 0; have q4 := k4.cell 0))
              | (go_at_call 9; go_must (refine (works_any _).mono ?_; rintro e U7 ⟨rfl, hn7⟩; have hU := hU.trans (hn7.mono hU.size); have k4 := k4.below hn7 k4.lt; have k6 := k6.below hn7 k6.lt; have k10 := k10.below hn7 k10.lt; have k13 := k13.below hn7 k13.lt; have k16 := k16.below hn7 k16.lt; have q60 := k6.cell 0; have q61 := k6.cell 1; have g0 := k10.cell 0; have g1 := k10.cell 1; have q13 := k13.cell 0; have q16 := k16.cell 0; have f4 := k4.frozen 0; have q4 := k4.cell 0))
              | fail)
            exact leave_two (g := w.heap.size + 1) rfl rfl (k4.set_ 0 (.bool true)) ((Below.heap_setCell _ _ _ D2 (by show D2 ≠ w.heap.size + 1; intro e; subst e; have := hU.block _ hD2V; rw [hK2] at this; unfold Blk at k4; rw [k4] at this; cases this)).trans ((hU.block D2 hD2V).trans hK2)) ((Below.heap_setCell _ _ _ D1 (by show D1 ≠ w.heap.size + 1; intro e; subst e; have := hU.block _ hD1V; rw [hK1V] at this; unfold Blk at k4; rw [k4] at this; cases this)).trans ((hU.block D1 hD1V).trans hK1V)) hD12 lD1 lD2 ((hbV.trans (hU.mono hbV.size)).setCell (p := ⟨w.heap.size + 1, 0, none⟩) (Nat.le_succ _) _)
end Go.Proofs.Ythfgblchlgodmaa
