/- The walk of Drop at a deque that is none. No condition. -/
import Derived.Test.YtlglelgnpkdnbaaDqN
namespace Go.Proofs.Ytlglelgnpkdnbaa
open Go.RowKit Go.Shelf
set_option linter.unusedVariables false
attribute [local go_sem] Oper.semAt_some

set_option maxRecDepth 100000 in
set_option maxHeartbeats 4000000 in
theorem drop_nil (text : ByteArray) (w : World) :
    Calls Try.prog 30 #[.pointer none, .int .i64 0, .string text] w fun e w' => e = .returned (.int .i64 0) ∧ Below w.heap.size w w' := by
  have hmm := @run_makeMap_plain Try.prog
  refine (callsIn_wide (n := 5)).1 ?_
  refine callsIn_of_wp_marks Try.func30 rfl trivial ?_ rfl
  simp only [Try.ntmps30, List.size_toArray, List.length_cons, List.length_nil, Nat.reduceAdd, Nat.reduceSub, Array.replicate_succ, Array.replicate_zero, List.push_toArray, List.append_toArray, List.nil_append, List.cons_append]
  refine wpIn_wide.2 ?_
  go_upto_region 3 with (first
    | (go_at_call 23
       go_must (
       have hb0 : Below w.heap.size w ((w.alloc (.cells #[.int .i64 0] 2)).alloc (.cells #[.string text] 9)) := ((Below.refl _ w).alloc (Nat.le_refl _) _).alloc (by simp) _
       have hC0 := (Blk.new w 2 #[.int .i64 0]).alloc (.cells #[.string text] 9)
       have hT0 := Blk.new (w.alloc (.cells #[.int .i64 0] 2)) 9 #[.string text]
       rw [World.size_alloc] at hT0
       have hs0 : ((w.alloc (.cells #[.int .i64 0] 2)).alloc (.cells #[.string text] 9)).heap.size = w.heap.size + 2 := by simp
       generalize (w.alloc (.cells #[.int .i64 0] 2)).alloc (.cells #[.string text] 9) = w1 at *
       refine (range_nil w1).mono ?_
       rintro e w2 ⟨rfl, hw2⟩
       have hb2 : Below w1.heap.size w1 w2 := by rw [← hw2]; exact Below.refl _ _
       clear hw2
       have hC2 := hC0.below hb2 hC0.lt
       have hT2 := hT0.below hb2 hT0.lt))
    | fail)
  have hV := (Blk.new w2 29 #[.slice none 0 0]).alloc (.map #[] 0) |>.alloc (.cells #[.map (some (w2.heap.size + 1))] 64)
  have hM : Mp (((w2.alloc (.cells #[.slice none 0 0] 29)).alloc (.map #[] 0)).alloc (.cells #[.map (some (w2.heap.size + 1))] 64)) (w2.heap.size + 1) [] := by
    have := Mp.made (w2.alloc (.cells #[.slice none 0 0] 29))
    rw [World.size_alloc] at this
    exact this.keep (Below.heap_alloc _ _ _ (by simp))
  have hP : Blk (((w2.alloc (.cells #[.slice none 0 0] 29)).alloc (.map #[] 0)).alloc (.cells #[.map (some (w2.heap.size + 1))] 64)) (w2.heap.size + 1 + 1) 64 #[.map (some (w2.heap.size + 1))] := by
    have := Blk.new ((w2.alloc (.cells #[.slice none 0 0] 29)).alloc (.map #[] 0)) 64 #[.map (some (w2.heap.size + 1))]
    rw [World.size_alloc, World.size_alloc] at this
    exact this
  have hb3 : Below w2.heap.size w2 (((w2.alloc (.cells #[.slice none 0 0] 29)).alloc (.map #[] 0)).alloc (.cells #[.map (some (w2.heap.size + 1))] 64)) := (((Below.refl _ w2).alloc (Nat.le_refl _) _).alloc (by simp) _).alloc (by simp; omega) _
  have hs3 : (((w2.alloc (.cells #[.slice none 0 0] 29)).alloc (.map #[] 0)).alloc (.cells #[.map (some (w2.heap.size + 1))] 64)).heap.size = w2.heap.size + 3 := by simp
  generalize ((w2.alloc (.cells #[.slice none 0 0] 29)).alloc (.map #[] 0)).alloc (.cells #[.map (some (w2.heap.size + 1))] 64) = W2 at *
  have hC3 := hC2.below hb3 hC2.lt
  have hT3 := hT2.below hb3 hT2.lt
  have hVl : w1.heap.size ≤ w2.heap.size := hb2.size
  have hbW : Below w.heap.size w W2 := (hb0.trans (hb2.mono hb0.size)).trans (hb3.mono (by have := hb0.size; omega))
  clear hC0 hT0 hC2 hT2 hmm
  generalize w2.heap.size = gV at *
  have q0 := hC3.cell 0
  have qT := hT3.cell 0
  rw [show (#[Value.int .i64 0] : Array Value)[0]? = some (.int .i64 0) from rfl] at q0
  rw [show (#[Value.string text] : Array Value)[0]? = some (.string text) from rfl] at qT
  have qV := hV.cell 0
  rw [show (#[Value.slice none 0 0] : Array Value)[0]? = some (.slice none 0 0) from rfl] at qV
  go_wp2_with (first
    | (go_at_call 38
       go_must (
       refine (walk_any 0 W2).mono ?_
       rintro e W3 ⟨rfl, rfl⟩))
    | fail)
  have hbx := ((Below.refl W2.heap.size W2).alloc (Nat.le_refl _) (.cells #[.int .i64 (0 : Nat)] 3)).alloc (by simp) (.cells #[.bool false] 4)
  have hN3 := (Blk.new W2 3 #[.int .i64 (0 : Nat)]).alloc (.cells #[.bool false] 4)
  have hF3 := Blk.new (W2.alloc (.cells #[.int .i64 (0 : Nat)] 3)) 4 #[.bool false]
  rw [World.size_alloc] at hF3
  have hs4 : ((W2.alloc (.cells #[.int .i64 (0 : Nat)] 3)).alloc (.cells #[.bool false] 4)).heap.size = W2.heap.size + 2 := by simp
  generalize (W2.alloc (.cells #[.int .i64 (0 : Nat)] 3)).alloc (.cells #[.bool false] 4) = W3 at *
  have hC4 := hC3.below hbx hC3.lt
  have hT4 := hT3.below hbx hT3.lt
  have hV4 := hV.below hbx hV.lt
  have hP4 := hP.below hbx hP.lt
  have hM4 : Mp W3 (gV + 1) [] := hM.keep (hbx.block _ (by omega))
  have hbw4 := hbW.trans (hbx.mono hbW.size)
  clear hC3 hT3 hV hP hM q0 qT qV
  rw [hs3] at hbx hN3 hF3 hs4
  refine (wpIn_wide (n := 5)).1 ?_
  refine range_toldP rfl (by omega) (gf := 44) (lb := #[.pointer (some ⟨gV + 3, 0, none⟩), .pointer (some ⟨gV + 3 + 1, 0, none⟩)]) rfl trivial (enters_of Try.func44 (by kernel_rfl) rfl)
    (walk1_told _ (gV + 3) (gV + 3 + 1) 0 (gV + 3) W3 hN3 hF3 (Nat.le_refl _) (by omega) (by omega)) KeepsCells.trans (fun W k o o' _ h hc _ => keeps_putObj W k o o' h hc) (fun _ => rfl)
    (fun pre W => Mp W (gV + 1) [] ∧ Blk W w.heap.size 2 #[.int .i64 0] ∧ Blk W (w.heap.size + 1) 9 #[.string text] ∧ Blk W gV 29 #[.slice none 0 0] ∧ Blk W (gV + 1 + 1) 64 #[.map (some (gV + 1))] ∧ Below w.heap.size w W ∧ W3.heap.size ≤ W.heap.size) ?own (fun x A B row hs hg hr => hs) ⟨hM4, hC4, hT4, hV4, hP4, hbw4, Nat.le_refl _⟩
    (fun x => { tmps := #[(Value.pointer none), (.int .i64 0), (.string text), undef, (.pointer (some ⟨w.heap.size, 0, none⟩)), (.pointer (some ⟨w.heap.size + 1, 0, none⟩)), (.int .i64 0), (.pointer (some ⟨gV, 0, none⟩)), (.pointer (some ⟨gV + 1 + 1, 0, none⟩)), (.int .i64 x), undef, undef, undef, undef, (.pointer none), (.slice none 0 0), (.map (some (gV + 1))), (.slice none 0 0), (.int .i64 0), (.int .i64 0), (.bool false), (.func (.func 44) #[] #[.pointer (some ⟨gV + 3, 0, none⟩), .pointer (some ⟨gV + 3 + 1, 0, none⟩)]), (.int .i64 x), undef, undef, undef, undef, undef, undef, undef, undef, undef, undef, undef, undef, undef, undef, undef, undef, undef, undef, undef, undef, undef, undef, undef, undef, undef, undef, undef, undef, undef, undef, undef, undef, undef, undef, undef, undef, undef, undef, undef, undef, undef, undef, undef], defers := [] }) ?assign ?body ?done
  case own =>
    intro pre A2 B2 row hs hgr hr
    have hrow : ∀ r, row = some r → ∃ o, A2.heap[r]? = some o ∧ o.isCells = false := fun r e => (hr r e).2
    obtain ⟨h1, h2, h3, h4, h5, h8, h9⟩ := hs
    have hml : gV + 1 < A2.heap.size := by omega
    refine ⟨h1.keep (hgr.block _ hml (fun e => by have := (hr _ e.symm).1; omega)), h2.grownN hgr hrow, h3.grownN hgr hrow, h4.grownN hgr hrow, h5.grownN hgr hrow, h8.grown hgr h8.size (fun k e => Nat.le_trans hbw4.size (hr k e).1), Nat.le_trans h9 hgr.size⟩
  case assign =>
    intro k x W K hK
    gi_wp2
    exact hK
  case body =>
    rintro lp pre x W _ ⟨hxn, _⟩
    exact absurd hxn (Nat.not_lt_zero _)
  case done =>
    rintro D xs W hD hS ⟨h1, h2, h3, h4, h5, h8, h9⟩ hK
    have qV := h4.cell 0
    have qP := h5.cell 0
    rw [show (#[Value.slice none 0 0] : Array Value)[0]? = some (.slice none 0 0) from rfl] at qV
    rw [show (#[Value.map (some (gV + 1))] : Array Value)[0]? = some (.map (some (gV + 1))) from rfl] at qP
    have hln := h1.len 3
    go_wp2_with fail
    have hgr := grownBy_putObj' W D (.deferred none)
    have hrw : ∀ r, some D = some r → ∃ o, W.heap[r]? = some o ∧ o.isCells = false := fun r e => by cases e; exact ⟨_, hK, rfl⟩
    refine ⟨by simp, .inl ⟨_, _, rfl, run_takeDeferred hK, ?_⟩⟩
    exact ⟨_, results_tmp rfl _ _ _, rfl, h8.grown hgr h8.size (fun k e => by cases e; have := hbw4.size; omega)⟩
end Go.Proofs.Ytlglelgnpkdnbaa
