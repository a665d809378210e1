/- The walk of Drop (package deque) at the count nought. Conditions: those of each theorem. -/
import Derived.Test.YtlglelgnpkdnbaaDqK
import Derived.Deep.DeepCutAuto
import Derived.BigRegionIn
namespace Go.Proofs.Ytlglelgnpkdnbaa
open Go.RowKit Go.Shelf
set_option linter.unusedVariables false
attribute [local go_sem] Oper.semAt_some

theorem walk_any (n : Nat) (w : World) : Calls Try.prog 38 #[.int .i64 n, .bool false] w fun e w' => e = .returned (.func (.func 44) #[] #[.pointer (some ⟨w.heap.size, 0, none⟩), .pointer (some ⟨w.heap.size + 1, 0, none⟩)]) ∧ w' = (w.alloc (.cells #[.int .i64 n] 3)).alloc (.cells #[.bool false] 4) := by
  go_enter Try.func38, Try.ntmps38
  go_wp2_with fail
  refine bodyPost_ret (v := .func (.func 44) #[] #[.pointer (some ⟨w.heap.size, 0, none⟩), .pointer (some ⟨w.heap.size + 1, 0, none⟩)]) (by simp [results, Try.results38, go_sem]) rfl ⟨rfl, rfl⟩

theorem laid_any {g : Nat} (A : Option Addr) (len cap first n : Nat) (A' : Option Addr) (n' c' : Nat) (w : World) (h : Blk w g 57 (dcells A len cap first n)) :
    Calls Try.prog 36 #[.pointer (some ⟨g, 0, none⟩), .slice A' n' c'] w fun e w' => (∃ v, e = .returned v) ∧ w' = ((w.setCell ⟨g, 0, none⟩ (.slice A' n' c')).setCell ⟨g, 1, none⟩ (.int .i64 0)).setCell ⟨g, 2, none⟩ (.int .i64 n') := by
  have c0 := h.cell 0
  have c1 := h.cell 1
  have c2 := h.cell 2
  rw [show (dcells A len cap first n)[0]? = some (.slice A len cap) from rfl] at c0
  rw [show (dcells A len cap first n)[1]? = some (.int .i64 first) from rfl] at c1
  rw [show (dcells A len cap first n)[2]? = some (.int .i64 n) from rfl] at c2
  have f0 := h.frozen 0
  have f1 := h.frozen 1
  have f2 := h.frozen 2
  go_enter Try.func36, Try.ntmps36
  go_wp2_with fail
  go_end0
  exact ⟨⟨_, rfl⟩, rfl⟩

/-- is the text at i this one? -/
def hitB (l : List ByteArray) (text : ByteArray) (i : Nat) : Bool := (l.getD i ⟨#[]⟩).toList == text.toList
def hits (l : List ByteArray) (text : ByteArray) (k : Nat) : List Nat := (List.range k).filter (hitB l text)
def leftOf (l : List ByteArray) (text : ByteArray) : List ByteArray := l.filter fun s => !(s.toList == text.toList)
theorem hits_succ (l : List ByteArray) (text : ByteArray) (k : Nat) : hits l text (k + 1) = hits l text k ++ if hitB l text k then [k] else [] := by
  simp only [hits, List.range_succ, List.filter_append]
  cases h : hitB l text k <;> simp [h]
theorem hits_mem (l : List ByteArray) (text : ByteArray) (k i : Nat) : i ∈ hits l text k ↔ i < k ∧ hitB l text i = true := by simp [hits]
theorem hits_fresh (l : List ByteArray) (text : ByteArray) (k : Nat) : k ∉ hits l text k := by rw [hits_mem]; omega
theorem left_snoc {l : List ByteArray} {text s : ByteArray} {t : Nat} (hs : l[t]? = some s) : leftOf (l.take (t + 1)) text = leftOf (l.take t) text ++ if hitB l text t then [] else [s] := by
  have hb : hitB l text t = (s.toList == text.toList) := by unfold hitB; rw [List.getD_eq_getElem?_getD, hs]; rfl
  rw [hb, List.take_add_one, hs]
  simp only [leftOf, Option.toList, List.filter_append]
  cases h : (s.toList == text.toList) <;> simp [h]
theorem left_all {l : List ByteArray} {text : ByteArray} (h : hits l text l.length = []) : leftOf l text = l := by
  unfold leftOf
  rw [List.filter_eq_self]
  intro s hs
  obtain ⟨i, hi, rfl⟩ := List.mem_iff_getElem.1 hs
  have : i ∉ hits l text l.length := by rw [h]; simp
  rw [hits_mem] at this
  have hb : ¬ hitB l text i = true := fun e => this ⟨hi, e⟩
  unfold hitB at hb
  rw [List.getD_eq_getElem?_getD, List.getElem?_eq_getElem hi] at hb
  simpa using hb

theorem wpListIn_mp {F : Fence} {nF : Nat} {ops : Array Oper} {rest : List Oper} {o : Oper} {a : Act} {Q : Exit → Act → World → Prop} {w : World} {r : Nat} {ks : List Nat} {k : Nat} (hg : o.guard = none) (m x v : Operand) (hop : o.op = Op.mapUpdate 64 m x v)
    (hm : a.eval m = .map (some r)) (hown : Mp w r ks) (hx : a.eval x = .int .i64 (k : Int)) (hv : a.eval v = .bool true) (hk : k ∉ ks)
    (hK : ∀ w', Mp w' r (ks ++ [k]) → (∃ o', w' = w.putObj r o' ∧ o'.isCells = false) → wpListIn F nF Try.prog ops Q rest (a.put o.dst undef) w') : wpListIn F nF Try.prog ops Q (o :: rest) a w := by
  refine wpListIn_plain hg fun K' hK' => ?_
  obtain ⟨o', hrun, r1, r2⟩ := hown.update hk
  unfold Oper.wpIn
  refine ⟨by simp [Oper.about, hop], ?_⟩
  rw [Oper.semAt_plain F _ _ (by rw [hop]; intro c hc'; cases hc')]
  simp [execOp, hop, hm, hx, hv, hrun, Result.andThen]
  exact hK' _ _ (hK _ r1 ⟨o', rfl, r2⟩)
/-- what is beside an object that holds no cells is kept -/
theorem putObj_keeps {B r : Nat} {w : World} {es : Array MapEntry} {c : Nat} {o' : Obj} (h : w.heap[r]? = some (.map es c)) : KeepsCells B w (w.putObj r o') := keeps_putObj w r _ o' h rfl
theorem own_put {w : World} {B : Nat} {e : TypeId} {v : Value} {n r : Nat} {xs : List Value} {es : Array MapEntry} {c : Nat} {o' : Obj} (h : w.ownsRow B e 1 v n xs) (hr : w.heap[r]? = some (.map es c)) : (w.putObj r o').ownsRow B e 1 v n xs := by
  obtain ⟨h1, h2⟩ := h
  refine ⟨h1, ?_⟩
  rcases h2 with h2 | ⟨g, cap, cur, rfl, hb, hg, hc⟩
  · exact .inl h2
  · exact .inr ⟨g, cap, cur, rfl, hb, (World.putObj_heap_other (fun e => by rw [e, hr] at hg; cases hg)).trans hg, hc⟩
theorem Blk.put {w : World} {k r : Nat} {t : TypeId} {cs : Array Value} {es : Array MapEntry} {c : Nat} {o' : Obj} (h : Blk w k t cs) (hr : w.heap[r]? = some (.map es c)) : Blk (w.putObj r o') k t cs :=
  (World.putObj_heap_other (fun e => by unfold Blk at h; rw [e, hr] at h; cases h)).trans h
theorem DQ.put {B : Nat} {w : World} {g r : Nat} {l : List ByteArray} {es : Array MapEntry} {c : Nat} {o' : Obj} (h : DQ B w g l) (hr : w.heap[r]? = some (.map es c)) : DQ B (w.putObj r o') g l := by
  obtain ⟨A, len, cap, first, ring, h1, h2, h3, h4⟩ := h
  exact ⟨A, len, cap, first, ring, h1.put hr, h2, own_put h3 hr, h4⟩
theorem Blk.grownN {w w' : World} {row : Option Nat} {k : Nat} {t : TypeId} {cs : Array Value} (h : Blk w k t cs) (hg : w.grownBy w' row) (hr : ∀ r, row = some r → ∃ o, w.heap[r]? = some o ∧ o.isCells = false) : Blk w' k t cs :=
  h.grown hg (fun e => by
    obtain ⟨o, h1, h2⟩ := hr k e.symm
    unfold Blk at h
    rw [h] at h1
    injection h1 with h1
    subst h1
    cases h2)
theorem own_grownN {w w' : World} {row : Option Nat} {B : Nat} {e : TypeId} {v : Value} {n : Nat} {xs : List Value} (h : w.ownsRow B e 1 v n xs) (hg : w.grownBy w' row) (hr : ∀ r, row = some r → ∃ o, w.heap[r]? = some o ∧ o.isCells = false) : w'.ownsRow B e 1 v n xs := by
  obtain ⟨h1, h2⟩ := h
  refine ⟨h1, ?_⟩
  rcases h2 with h2 | ⟨g, cap, cur, rfl, hb, hk, hc⟩
  · exact .inl h2
  · have hk' : Blk w g e cur := hk
    exact .inr ⟨g, cap, cur, rfl, hb, hk'.grownN hg hr, hc⟩
theorem DQ.grownN {w w' : World} {row : Option Nat} {B g : Nat} {l : List ByteArray} (h : DQ B w g l) (hg : w.grownBy w' row) (hr : ∀ r, row = some r → ∃ o, w.heap[r]? = some o ∧ o.isCells = false) : DQ B w' g l := by
  obtain ⟨A, len, cap, first, ring, h1, h2, h3, h4⟩ := h
  exact ⟨A, len, cap, first, ring, h1.grownN hg hr, h2, own_grownN h3 hg hr, h4⟩
theorem own_base {w : World} {B B' : Nat} {e : TypeId} {v : Value} {n : Nat} {xs : List Value} (h : w.ownsRow B' e 1 v n xs) (hB : B ≤ B') : w.ownsRow B e 1 v n xs := by
  obtain ⟨h1, h2⟩ := h
  refine ⟨h1, ?_⟩
  rcases h2 with h2 | ⟨g, cap, cur, a, b, c⟩
  · exact .inl h2
  · exact .inr ⟨g, cap, cur, a, Nat.le_trans hB b, c⟩
theorem Blk.putObj {w : World} {k r : Nat} {t : TypeId} {cs : Array Value} {o' : Obj} (h : Blk w k t cs) (hne : k ≠ r) : Blk (w.putObj r o') k t cs := (World.putObj_heap_other hne).trans h

set_option maxRecDepth 100000 in
set_option maxHeartbeats 4000000 in
theorem drop_any {B g : Nat} {l : List ByteArray} (text : ByteArray) (w : World) (h : DQ B w g l) (hB : B ≤ w.heap.size) (hl6 : l.length ≤ 65536) :
    Calls Try.prog 30 #[.pointer (some ⟨g, 0, none⟩), .int .i64 0, .string text] w fun e w' => e = .returned (.int .i64 (hits l text l.length).length) ∧ DQ B w' g (leftOf l text) ∧ Below B w w' := by
  have hmm := @run_makeMap_plain Try.prog
  have hgw : g < w.heap.size := by obtain ⟨_, _, _, _, _, hx⟩ := h; exact hx.1.lt
  refine (callsIn_wide (n := 5)).1 ?_
  refine callsIn_of_wp_marks Try.func30 rfl trivial ?_ rfl
  simp only [Try.ntmps30, List.size_toArray, List.length_cons, List.length_nil, Nat.reduceAdd, Nat.reduceSub, Array.replicate_succ, Array.replicate_zero, List.push_toArray, List.append_toArray, List.nil_append, List.cons_append]
  refine wpIn_wide.2 ?_
  go_upto_region 3 with (first
    | (go_at_call 23
       go_must (
       have hb0 : Below w.heap.size w ((w.alloc (.cells #[.int .i64 0] 2)).alloc (.cells #[.string text] 9)) := ((Below.refl _ w).alloc (Nat.le_refl _) _).alloc (by simp) _
       have hC0 := (Blk.new w 2 #[.int .i64 0]).alloc (.cells #[.string text] 9)
       have hT0 := Blk.new (w.alloc (.cells #[.int .i64 0] 2)) 9 #[.string text]
       rw [World.size_alloc] at hT0
       have hs0 : ((w.alloc (.cells #[.int .i64 0] 2)).alloc (.cells #[.string text] 9)).heap.size = w.heap.size + 2 := by simp
       generalize (w.alloc (.cells #[.int .i64 0] 2)).alloc (.cells #[.string text] 9) = w1 at *
       have hD1 := h.below hb0
       refine (range_any w1 hD1 0 (-1) ⟨by decide, by decide⟩ ⟨by decide, by decide⟩).mono ?_
       rintro e w2 ⟨v, rfl, hown, hb2⟩
       rw [rangeOf_all] at hown
       obtain ⟨A1, cap1, rfl, hcap1, hcm1⟩ := own_slice hown
       have hC2 := hC0.below hb2 hC0.lt
       have hT2 := hT0.below hb2 hT0.lt
       have hD2 := hD1.below hb2))
    | fail)
  have hV := (Blk.new w2 29 #[.slice A1 l.length cap1]).alloc (.map #[] 0) |>.alloc (.cells #[.map (some (w2.heap.size + 1))] 64)
  have hM : Mp (((w2.alloc (.cells #[.slice A1 l.length cap1] 29)).alloc (.map #[] 0)).alloc (.cells #[.map (some (w2.heap.size + 1))] 64)) (w2.heap.size + 1) [] := by
    have := Mp.made (w2.alloc (.cells #[.slice A1 l.length cap1] 29))
    rw [World.size_alloc] at this
    exact this.keep (Below.heap_alloc _ _ _ (by simp))
  have hP : Blk (((w2.alloc (.cells #[.slice A1 l.length cap1] 29)).alloc (.map #[] 0)).alloc (.cells #[.map (some (w2.heap.size + 1))] 64)) (w2.heap.size + 1 + 1) 64 #[.map (some (w2.heap.size + 1))] := by
    have := Blk.new ((w2.alloc (.cells #[.slice A1 l.length cap1] 29)).alloc (.map #[] 0)) 64 #[.map (some (w2.heap.size + 1))]
    rw [World.size_alloc, World.size_alloc] at this
    exact this
  have hb3 : Below w2.heap.size w2 (((w2.alloc (.cells #[.slice A1 l.length cap1] 29)).alloc (.map #[] 0)).alloc (.cells #[.map (some (w2.heap.size + 1))] 64)) := (((Below.refl _ w2).alloc (Nat.le_refl _) _).alloc (by simp) _).alloc (by simp; omega) _
  have hs3 : (((w2.alloc (.cells #[.slice A1 l.length cap1] 29)).alloc (.map #[] 0)).alloc (.cells #[.map (some (w2.heap.size + 1))] 64)).heap.size = w2.heap.size + 3 := by simp
  generalize ((w2.alloc (.cells #[.slice A1 l.length cap1] 29)).alloc (.map #[] 0)).alloc (.cells #[.map (some (w2.heap.size + 1))] 64) = W2 at *
  have hC3 := hC2.below hb3 hC2.lt
  have hT3 := hT2.below hb3 hT2.lt
  have hD3 := hD2.below hb3
  have hO3 := own_below hown hb3
  have hVl : w1.heap.size ≤ w2.heap.size := hb2.size
  have hbW : Below w.heap.size w W2 := (hb0.trans (hb2.mono hb0.size)).trans (hb3.mono (by have := hb0.size; omega))
  clear hC0 hT0 hC2 hT2 hD1 hD2 hown hmm
  generalize w2.heap.size = gV at *
  have q0 := hC3.cell 0
  have qT := hT3.cell 0
  rw [show (#[Value.int .i64 0] : Array Value)[0]? = some (.int .i64 0) from rfl] at q0
  rw [show (#[Value.string text] : Array Value)[0]? = some (.string text) from rfl] at qT
  have qV := hV.cell 0
  rw [show (#[Value.slice A1 l.length cap1] : Array Value)[0]? = some (.slice A1 l.length cap1) from rfl] at qV
  generalize hn : l.length = n at *
  go_wp2_with (first
    | (go_at_call 38
       go_must (
       refine (walk_any n W2).mono ?_
       rintro e W3 ⟨rfl, rfl⟩))
    | fail)
  have hbx := ((Below.refl W2.heap.size W2).alloc (Nat.le_refl _) (.cells #[.int .i64 n] 3)).alloc (by simp) (.cells #[.bool false] 4)
  have hN3 := (Blk.new W2 3 #[.int .i64 n]).alloc (.cells #[.bool false] 4)
  have hF3 := Blk.new (W2.alloc (.cells #[.int .i64 n] 3)) 4 #[.bool false]
  rw [World.size_alloc] at hF3
  have hs4 : ((W2.alloc (.cells #[.int .i64 n] 3)).alloc (.cells #[.bool false] 4)).heap.size = W2.heap.size + 2 := by simp
  generalize (W2.alloc (.cells #[.int .i64 n] 3)).alloc (.cells #[.bool false] 4) = W3 at *
  have hC4 := hC3.below hbx hC3.lt
  have hT4 := hT3.below hbx hT3.lt
  have hV4 := hV.below hbx hV.lt
  have hP4 := hP.below hbx hP.lt
  have hM4 : Mp W3 (gV + 1) [] := hM.keep (hbx.block _ (by omega))
  have hO4 := own_below hO3 hbx
  have hD4 := hD3.below hbx
  have hbw4 := hbW.trans (hbx.mono hbW.size)
  clear hC3 hT3 hV hP hM hO3 hD3 q0 qT qV
  rw [hs3] at hbx hN3 hF3 hs4
  refine (wpIn_wide (n := 5)).1 ?_
  refine range_toldP rfl (by omega) (gf := 44) (lb := #[.pointer (some ⟨gV + 3, 0, none⟩), .pointer (some ⟨gV + 3 + 1, 0, none⟩)]) rfl trivial (enters_of Try.func44 (by kernel_rfl) rfl)
    (walk1_told _ (gV + 3) (gV + 3 + 1) n (gV + 3) W3 hN3 hF3 (Nat.le_refl _) (by omega) (by omega)) KeepsCells.trans (fun W k o o' _ h hc _ => keeps_putObj W k o o' h hc) (fun _ => rfl)
    (fun pre W => Mp W (gV + 1) (hits l text pre.length) ∧ Blk W w.heap.size 2 #[.int .i64 0] ∧ Blk W (w.heap.size + 1) 9 #[.string text] ∧ Blk W gV 29 #[.slice A1 n cap1] ∧ Blk W (gV + 1 + 1) 64 #[.map (some (gV + 1))] ∧ W.ownsRow w1.heap.size 9 1 (.slice A1 n cap1) n (svs l) ∧ DQ B W g l ∧ Below w.heap.size w W ∧ W3.heap.size ≤ W.heap.size) ?own (fun x A B row hs hg hr => hs) ⟨hM4, hC4, hT4, hV4, hP4, hO4, hD4, hbw4, Nat.le_refl _⟩
    (fun x => { tmps := #[(Value.pointer (some ⟨g, 0, none⟩)), (.int .i64 0), (.string text), undef, (.pointer (some ⟨w.heap.size, 0, none⟩)), (.pointer (some ⟨w.heap.size + 1, 0, none⟩)), (.int .i64 0), (.pointer (some ⟨gV, 0, none⟩)), (.pointer (some ⟨gV + 1 + 1, 0, none⟩)), (.int .i64 x), undef, undef, undef, undef, (.pointer (some ⟨g, 0, none⟩)), (.slice A1 n cap1), (.map (some (gV + 1))), (.slice A1 n cap1), (.int .i64 n), (.int .i64 0), (.bool false), (.func (.func 44) #[] #[.pointer (some ⟨gV + 3, 0, none⟩), .pointer (some ⟨gV + 3 + 1, 0, none⟩)]), (.int .i64 x), undef, undef, undef, undef, undef, undef, undef, undef, undef, undef, undef, undef, undef, undef, undef, undef, undef, undef, undef, undef, undef, undef, undef, undef, undef, undef, undef, undef, undef, undef, undef, undef, undef, undef, undef, undef, undef, undef, undef, undef, undef, undef, undef], defers := [] }) ?assign ?body ?done
  case own =>
    intro pre A2 B2 row hs hgr hr
    have hrow : ∀ r, row = some r → ∃ o, A2.heap[r]? = some o ∧ o.isCells = false := fun r e => (hr r e).2
    obtain ⟨h1, h2, h3, h4, h5, h6, h7, h8, h9⟩ := hs
    have hml : gV + 1 < A2.heap.size := by omega
    refine ⟨h1.keep (hgr.block _ hml (fun e => by have := (hr _ e.symm).1; omega)), h2.grownN hgr hrow, h3.grownN hgr hrow, h4.grownN hgr hrow, h5.grownN hgr hrow, own_grownN h6 hgr hrow, h7.grownN hgr hrow, h8.grown hgr h8.size (fun k e => Nat.le_trans hbw4.size (hr k e).1), Nat.le_trans h9 hgr.size⟩
  case assign =>
    intro k x W K hK
    gi_wp2
    exact hK
  case body =>
    rintro lp pre x W ⟨h1, h2, h3, h4, h5, h6, h7, h8, h9⟩ ⟨hxn, hpre⟩
    have hlen : pre.length = x := by rw [hpre, List.length_range]
    rw [hlen] at h1
    have hxI : (x : Int) < (n : Int) := by omega
    have hx0 : (0 : Int) ≤ (x : Int) := by omega
    have hrd := Reads.of_own h6
    obtain ⟨b, o, s, rfl, hb, hs, hc⟩ := hrd.text hxn
    have q0 := h2.cell 0
    have qT := h3.cell 0
    have qV := h4.cell 0
    have qP := h5.cell 0
    rw [show (#[Value.int .i64 0] : Array Value)[0]? = some (.int .i64 0) from rfl] at q0
    rw [show (#[Value.string text] : Array Value)[0]? = some (.string text) from rfl] at qT
    rw [show (#[Value.slice (some ⟨b, o, none⟩) n cap1] : Array Value)[0]? = some (.slice (some ⟨b, o, none⟩) n cap1) from rfl] at qV
    rw [show (#[Value.map (some (gV + 1))] : Array Value)[0]? = some (.map (some (gV + 1))) from rfl] at qP
    have hhb : hitB l text x = (s.toList == text.toList) := by unfold hitB; rw [List.getD_eq_getElem?_getD, hs]; rfl
    by_cases hh : (s.toList == text.toList) = true
    · gi_wp2_with fail
      gi_region
      all_goals
        have h1d : Mp W.drew (gV + 1) (hits l text x) := h1
        have h2d : Blk W.drew w.heap.size 2 #[.int .i64 0] := h2
        have h3d : Blk W.drew (w.heap.size + 1) 9 #[.string text] := h3
        have h4d : Blk W.drew gV 29 #[.slice (some ⟨b, o, none⟩) n cap1] := h4
        have h5d : Blk W.drew (gV + 1 + 1) 64 #[.map (some (gV + 1))] := h5
        have h6d : W.drew.ownsRow w1.heap.size 9 1 (.slice (some ⟨b, o, none⟩) n cap1) n (svs l) := h6
        have h7d : DQ B W.drew g l := h7.drewN 1
        have h8d : Below w.heap.size w W.drew := h8.drew
        have h9d : W3.heap.size ≤ W.drew.heap.size := h9
        have qPd : W.drew.cell? ⟨gV + 1 + 1, 0, none⟩ = some (.map (some (gV + 1))) := qP
        have hkd : KeepsFrom W3.heap.size W W.drew := (KeepsOthers.drew _).from _
        have hcd : KeepsCells (gV + 3) W W.drew := ⟨Nat.le_refl _, fun _ _ _ _ h => h⟩
        generalize W.drew = Wd at *
        clear q0 qT qV qP hc hrd h2 h3 h4 h5 h6 h7 h8 h1
        gi_wp2_with (first
          | (refine wpListIn_mp rfl (.tmp 29) (.tmp 30) (.const (.bool true)) rfl rfl h1d rfl rfl (hits_fresh l text x) ?_
             intro W5 hM5 hput
             obtain ⟨o', rfl, ho'⟩ := hput
             have hMr : ∃ es ck, Wd.heap[gV + 1]? = some (.map es ck) := by obtain ⟨es, ck, e, _⟩ := h1d; exact ⟨es, ck, e⟩
             obtain ⟨es0, ck0, hMr⟩ := hMr
             have h2e := h2d.putObj (r := gV + 1) (o' := o') (by omega)
             have h3e := h3d.putObj (r := gV + 1) (o' := o') (by omega)
             have h4e := h4d.putObj (r := gV + 1) (o' := o') (by omega)
             have h5e := h5d.putObj (r := gV + 1) (o' := o') (by omega)
             have h6e := own_put (r := gV + 1) (o' := o') h6d hMr
             have h7e := h7d.put (r := gV + 1) (o' := o') hMr
             have h8e : Below w.heap.size w (Wd.putObj (gV + 1) o') := h8d.grown (grownBy_putObj' Wd (gV + 1) o') h8d.size (fun k e => by cases e; omega)
             have h9e : W3.heap.size ≤ (Wd.putObj (gV + 1) o').heap.size := by simpa [World.putObj] using h9d
             have hke : KeepsFrom W3.heap.size Wd (Wd.putObj (gV + 1) o') := ⟨by simp [World.putObj], fun k ob hk1 hk2 _ => (World.putObj_heap_other (by omega)).trans hk2⟩
             have hce : KeepsCells (gV + 3) Wd (Wd.putObj (gV + 1) o') := putObj_keeps hMr
             generalize Wd.putObj (gV + 1) o' = W5 at *
             have q05 := h2e.cell 0
             rw [show (#[Value.int .i64 0] : Array Value)[0]? = some (.int .i64 0) from rfl] at q05
             have qP5 := h5e.cell 0
             rw [show (#[Value.map (some (gV + 1))] : Array Value)[0]? = some (.map (some (gV + 1))) from rfl] at qP5
             obtain ⟨kk, hkk0⟩ : ∃ kk, (hits l text x ++ [x]).length = kk := ⟨_, rfl⟩
             have hg5 := hM5.len 3
             rw [hkk0] at hg5
             have hkk : ((kk : Int) == 0) = false := by rw [← hkk0]; simp; omega
             have hk1 : (0 : Int) ≤ (kk : Int) := by omega
             have hk2 : kk ≤ 100000 := by
               have := List.length_filter_le (hitB l text) (List.range x)
               rw [List.length_range] at this
               rw [← hkk0, List.length_append]
               simp only [hits, List.length_singleton]
               omega
             clear hkk0)
          | fail)
        refine ⟨hkd.trans hke, hcd.trans hce, ?_, h2e, h3e, h4e, h5e, h6e, h7e, h8e, h9e⟩
        rw [List.length_append, hlen]
        show Mp W5 (gV + 1) (hits l text (x + 1))
        rw [hits_succ, hhb, hh, if_pos rfl]
        exact hM5
    · have hh' : (s.toList == text.toList) = false := by simpa using hh
      gi_wp2_with fail
      gi_region
      all_goals
        gi_wp2_with fail
        refine ⟨(KeepsOthers.drew _).from _, ⟨Nat.le_refl _, fun _ _ _ _ h => h⟩, ?_, h2, h3, h4, h5, h6, h7.drewN 1, h8.drew, h9⟩
        rw [List.length_append, hlen]
        show Mp W.drew (gV + 1) (hits l text (x + 1))
        rw [hits_succ, hhb, hh', if_neg (by simp), List.append_nil]
        exact h1
  case done =>
    rintro D xs W hD hS ⟨h1, h2, h3, h4, h5, h6, h7, h8, h9⟩ hK
    have hxs : xs = List.range n := hS
    rw [hxs, List.length_range] at h1
    have qV := h4.cell 0
    have qP := h5.cell 0
    rw [show (#[Value.slice A1 n cap1] : Array Value)[0]? = some (.slice A1 n cap1) from rfl] at qV
    rw [show (#[Value.map (some (gV + 1))] : Array Value)[0]? = some (.map (some (gV + 1))) from rfl] at qP
    have hln := h1.len 3
    obtain ⟨kk, hkk⟩ : ∃ kk, (hits l text n).length = kk := ⟨_, rfl⟩
    have hkn : kk ≤ n := by
      have := List.length_filter_le (hitB l text) (List.range n)
      rw [List.length_range] at this
      rw [← hkk]
      exact this
    rw [hkk] at hln
    have HKK := hide hkk
    by_cases hz : kk = 0
    · subst hz
      have hle : leftOf l text = l := left_all (by rw [hn]; exact List.eq_nil_of_length_eq_zero hkk)
      have HLE := hide hle
      clear hle hkk
      go_wp2_with fail
      have hgr := grownBy_putObj' W D (.deferred none)
      have hrw : ∀ r, some D = some r → ∃ o, W.heap[r]? = some o ∧ o.isCells = false := fun r e => by cases e; exact ⟨_, hK, rfl⟩
      refine ⟨by simp, .inl ⟨_, _, rfl, run_takeDeferred hK, ?_⟩⟩
      exact ⟨_, results_tmp rfl _ _ _, by rw [hn, HKK.out]; rfl, by rw [HLE.out]; exact h7.grownN hgr hrw, (h8.mono hB).grown hgr (by have := h8.size; omega) (fun k e => by cases e; have := hbw4.size; omega)⟩
    · have hkI : (0 : Int) < (kk : Int) := by omega
      have hkN : 0 < kk := by omega
      have hrd := Reads.of_own h6
      clear hkk
      go_wp2_with fail
      go_loopw [11, 12, 13, 47] (fun v _ _ i wr => ∃ t : Nat, t ≤ n ∧ i = .int .i64 t ∧ wr.ownsRow W.heap.size 9 1 v (leftOf (l.take t) text).length (svs (leftOf (l.take t) text)) ∧ Below W.heap.size W wr)
        (fun _ _ _ i _ => n - (intOf i).toNat)
      case atStart => exact ⟨0, by omega, rfl, World.ownsRow_nil _ _ _ _, Below.refl _ _⟩
      case round =>
        obtain ⟨t, ht, rfl, how, hbr⟩ := hrel
        by_cases htn : t < n
        · have htI : (t : Int) < (n : Int) := by omega
          have ht0 : (0 : Int) ≤ (t : Int) := by omega
          obtain ⟨b, o, s, rfl, hb, hs, hc⟩ := hrd.text htn
          have hc' : wr.cell? ⟨b, o + t, none⟩ = some (.string s) := (hbr.cell (p := ⟨b, o + t, none⟩) hb).trans hc
          have qP' : wr.cell? ⟨gV + 1 + 1, 0, none⟩ = some (.map (some (gV + 1))) := (hbr.cell (p := ⟨gV + 1 + 1, 0, none⟩) h5.lt).trans qP
          have hM' : Mp wr (gV + 1) (hits l text n) := h1.keep (hbr.block _ (by omega))
          have hlk := hM'.lookup t
          have hhb : hitB l text t = (s.toList == text.toList) := by unfold hitB; rw [List.getD_eq_getElem?_getD, hs]; rfl
          have hmem : decide (t ∈ hits l text n) = hitB l text t := by
            cases hq : hitB l text t with
            | true => simp [hits_mem, htn, hq]
            | false => simp [hits_mem, hq]
          rw [hmem] at hlk
          have hlt : (leftOf (l.take t) text).length ≤ t := by
            have := List.length_filter_le (fun s : ByteArray => !(s.toList == text.toList)) (l.take t)
            rw [List.length_take] at this
            unfold leftOf
            omega
          have hw2 : IntKind.i64.wrap ((t : Int) + 1) = (t : Int) + 1 := IntWalk.i64_in _ (by omega)
          have hls := left_snoc (text := text) hs
          have hwB : W.heap.size ≤ wr.heap.size := hbr.size
          cases hq : hitB l text t with
          | true =>
            rw [hq] at hlk hls
            rw [if_pos rfl, List.append_nil] at hls
            have HLS := hide hls
            clear hls hmem hhb
            go_wp2_with fail
            go_roundw
            case rel => exact ⟨t + 1, by omega, by simp, by rw [HLS.out]; exact how, hbr⟩
            case measure => simp [intOf]; omega
          | false =>
            rw [hq] at hlk hls
            rw [if_neg (by simp)] at hls
            have HLS := hide hls
            clear hls hmem hhb
            have hr1 := Reads.one_new wr (.string s) 9
            go_wp2_with (first
              | (at_builtin
                 refine wpList_append rfl (.tmp 56) (.tmp 58) 29 rfl str_ok Try.underlying29 (how.alloc _) rfl hr1 rfl (svs_one [s]) (by unfold maxLen; omega) (by omega) (by simp; omega) ?_
                 intro v1 w5 hown5 hb5 _ _)
              | fail)
            go_roundw
            case rel =>
              refine ⟨t + 1, by omega, by simp, ?_, (hbr.alloc hwB _).trans hb5⟩
              rw [HLS.out, svs_append, List.length_append]
              exact hown5
            case measure => simp [intOf]; omega
        · have htI : ¬ (t : Int) < (n : Int) := by omega
          obtain rfl : t = n := by omega
          rw [List.take_of_length_le (by omega)] at how
          obtain ⟨A5, cap5, rfl, hc51, hc52⟩ := own_slice how
          have hDr := h7.below hbr
          obtain ⟨A6, len6, cap6, first6, ring6, hx6⟩ := hDr
          have hlay := laid_any A6 len6 cap6 first6 l.length A5 (leftOf l text).length cap5 wr hx6.1
          have hgg := hx6.2.1
          have hBg := hx6.1
          have qP' : wr.cell? ⟨gV + 1 + 1, 0, none⟩ = some (.map (some (gV + 1))) := (hbr.cell (p := ⟨gV + 1 + 1, 0, none⟩) h5.lt).trans qP
          have hM' : Mp wr (gV + 1) (hits l text t) := h1.keep (hbr.block _ (by omega))
          have hlel : (leftOf l text).length ≤ t := by
            have := List.length_filter_le (fun s : ByteArray => !(s.toList == text.toList)) l
            rw [hn] at this
            exact this
          obtain ⟨ll, hll⟩ : ∃ ll, (leftOf l text).length = ll := ⟨_, rfl⟩
          rw [hll] at how hlay hc51
          have HLL := hide hll
          rw [hll] at hlel
          clear hll hrd
          rw [hn] at hBg
          go_wp2_with (first
            | (go_at_call 36
               go_must (
               rw [HLL.out]
               refine hlay.mono ?_
               rintro e w7 ⟨⟨v7, rfl⟩, hw7⟩
               have hB7 : Blk w7 g 57 (dcells A5 ll cap5 0 ll) := by rw [hw7]; exact ((hBg.set_ 0 _).set_ 1 _).set_ 2 _
               have hfar : ∀ k, k ≠ g → w7.heap[k]? = wr.heap[k]? := fun k hk => by
                 rw [hw7]
                 exact (Below.heap_setCell _ ⟨g, 2, none⟩ _ k (by simpa using hk)).trans ((Below.heap_setCell _ ⟨g, 1, none⟩ _ k (by simpa using hk)).trans (Below.heap_setCell wr ⟨g, 0, none⟩ _ k (by simpa using hk)))
               have hsg : (Value.slice A5 ll cap5).ownBlock ≠ some g := fun e => by have := (how.lt g e).1; have := h8.size; omega
               have ho7 : w7.ownsRow B 9 1 (.slice A5 ll cap5) ll (svs (leftOf l text)) := by
                 rw [hw7]
                 exact own_far (own_far (own_far (own_base how (by have := h8.size; omega)) (p := ⟨g, 0, none⟩) hsg _) (p := ⟨g, 1, none⟩) hsg _) (p := ⟨g, 2, none⟩) hsg _
               have hb7 : Below B w w7 := by
                 rw [hw7]
                 exact ((((h8.trans (hbr.mono h8.size)).mono hB).setCell hgg _).setCell hgg _).setCell hgg _
               have hM7 : Mp w7 (gV + 1) (hits l text t) := hM'.keep (hfar _ (by omega))
               have hln7 := hM7.len 3
               rw [HKK.out] at hln7
               have qP7 : w7.cell? ⟨gV + 1 + 1, 0, none⟩ = some (.map (some (gV + 1))) := (World.cell?_of_block (a := ⟨gV + 1 + 1, 0, none⟩) (hfar _ (by simp; omega))).trans qP'
               have hD7 : w7.heap[D]? = some (.deferred (some [])) := ((hfar D (by have := hbw4.size; omega)).trans (hbr.block D (Array.getElem?_eq_some_iff.1 hK).1)).trans hK
               clear hw7))
            | fail)
          have hgr := grownBy_putObj' w7 D (.deferred none)
          have hrw : ∀ r, some D = some r → ∃ o, w7.heap[r]? = some o ∧ o.isCells = false := fun r e => by cases e; exact ⟨_, hD7, rfl⟩
          refine ⟨by simp, .inl ⟨_, _, rfl, run_takeDeferred hD7, ?_⟩⟩
          refine ⟨_, results_tmp rfl _ _ _, by rw [hn, HKK.out]; rfl, ⟨A5, ll, cap5, 0, leftOf l text, ?_⟩, hb7.grown hgr (by have := hb7.size; omega) (fun k e => by cases e; have := hbw4.size; omega)⟩
          rw [HLL.out]
          exact ⟨hB7.grownN hgr hrw, hgg, own_grownN ho7 hgr hrw, HLL.out, Nat.le_refl _, by omega, by omega, by omega, fun i hi => by rw [Nat.zero_add, Nat.mod_eq_of_lt hi]⟩
end Go.Proofs.Ytlglelgnpkdnbaa
