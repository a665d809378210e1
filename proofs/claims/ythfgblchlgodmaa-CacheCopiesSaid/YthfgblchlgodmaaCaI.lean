/- The walk of the law's all at a cache that is none (packages cache, taborlaw21). No condition. -/
import Derived.Test.YthfgblchlgodmaaCaH
import Derived.Test.YthfgblchlgodmaaRangeP
namespace Go.Proofs.Ythfgblchlgodmaa
open Go.RowKit Go.Shelf
set_option linter.unusedVariables false
attribute [local go_sem] Oper.semAt_some

theorem call_nil (w : World) : Calls Try.prog 18 #[.pointer none] w fun e w' => e = .returned (.func (.func 38) #[] #[.pointer (some ⟨w.heap.size, 0, none⟩), .pointer (some ⟨w.heap.size + 1, 0, none⟩)]) ∧ Blk w' w.heap.size 60 #[.slice none 0 0] ∧ Below w.heap.size w w' := by
  go_enter Try.func18, Try.ntmps18
  go_wp2_with (first
    | (go_at_call 35; refine (cnone_nil _).mono ?_; rintro e w1 ⟨rfl, rfl⟩)
    | fail)
  go_ret
  exact ⟨rfl, (Blk.new w _ _).alloc _, ((Below.refl _ w).alloc (Nat.le_refl _) _).alloc (by simp) _⟩

abbrev KV2 := ByteArray × ByteArray
def enc2 (x : KV2) : Array Value := #[.string x.1, .string x.2]
theorem call1_told (m : Nat) (b1 b2 : Nat) (w : World) (h1 : Blk w b1 60 #[.slice none 0 0]) :
    SeqToldP Fence.wide m Try.prog 38 #[.pointer (some ⟨b1, 0, none⟩), .pointer (some ⟨b2, 0, none⟩)] enc2 (fun _ _ _ => False) (fun _ _ => True) (fun xs => xs = []) w := by
  intro lp J W hW hJ hY h0
  have c1 : W.cell? ⟨b1, 0, none⟩ = some (.slice none 0 0) := (h1.below hW h1.lt).cell 0
  refine callsIn_of_wp Try.func38 rfl trivial ?_ rfl
  simp only [Try.ntmps38, List.size_toArray, List.length_cons, List.length_nil, Nat.reduceAdd, Nat.reduceSub, Array.replicate_succ, Array.replicate_zero, List.push_toArray, List.append_toArray, List.nil_append, List.cons_append]
  gi_wp2_with fail
  gi_loopw [4, 5, 8] (fun _ _ i wr => i = .int .i64 0 ∧ J [] wr) (fun _ _ _ _ => 0)
  case atStart => exact ⟨rfl, h0⟩
  case round =>
    obtain ⟨rfl, h4⟩ := hrel
    gi_wp2_with fail
    go_end0
    exact ⟨⟨_, rfl⟩, [], rfl, h4⟩

theorem run_equalIn_func_nil (d : Nat) (f : Fn) (x y : Array Value) (w : World) : (Op.equalIn (d + 1) 41 (.func f x y) .nilFunc).run Try.prog w = .ok false w := by
  simp [Op.equalIn, run_underlying Try.underlying41]
theorem run_eql_func_nil (f : Fn) (x y : Array Value) (w : World) : (binOp .eql 41 (.func f x y) .nilFunc).run Try.prog w = .ok (.bool false) w := by
  simp only [binOp]
  simp [Op.equal, Op.maxDepth, run_equalIn_func_nil 9999 f x y w]

set_option maxHeartbeats 2000000 in
theorem lawAll_nil (w : World) : Calls Try.prog 30 #[.pointer none] w fun e w' => e = .returned (.slice none 0 0) ∧ Below w.heap.size w w' := by
  have heqf := run_eql_func_nil
  refine (callsIn_wide (n := 5)).1 ?_
  refine callsIn_of_wp_marks Try.func30 rfl trivial ?_ rfl
  simp only [Try.ntmps30, List.size_toArray, List.length_cons, List.length_nil, Nat.reduceAdd, Nat.reduceSub, Array.replicate_succ, Array.replicate_zero, List.push_toArray, List.append_toArray, List.nil_append, List.cons_append]
  refine wpIn_wide.2 ?_
  go_upto_region 2 with (fail)
  have hL0 := Blk.new w 28 #[.slice none 0 0]
  have hb0 : Below w.heap.size w (w.alloc (.cells #[.slice none 0 0] 28)) := (Below.refl _ w).alloc (Nat.le_refl _) _
  generalize w.alloc (.cells #[.slice none 0 0] 28) = w1 at *
  have T1 := hide True.intro
  go_wp2_with (first
    | (go_at_call 18
       have _t := T1
       go_must (
       refine (call_nil w1).mono ?_
       rintro e w2 ⟨rfl, _, hb2⟩
       have hL2 := hL0.below hb2 hL0.lt
       have hbw2 := hb0.trans (hb2.mono hb0.size)
       clear T1 _t))
    | (go_at_call 18
       go_must (
       refine (call_nil w2).mono ?_
       rintro e w3 ⟨rfl, hk3, hb3⟩
       have hL3 := hL2.below hb3 hL2.lt
       have hbw3 := hbw2.trans (hb3.mono hbw2.size)))
    | fail)
  clear heqf
  refine (wpIn_wide (n := 5)).1 ?_
  refine range_toldP rfl (by omega) (gf := 38) (lb := #[.pointer (some ⟨w2.heap.size, 0, none⟩), .pointer (some ⟨w2.heap.size + 1, 0, none⟩)]) rfl trivial (enters_of Try.func38 (by kernel_rfl) rfl)
    (call1_told _ w2.heap.size (w2.heap.size + 1) w3 hk3) (fun _ _ => trivial) (fun W k o o' _ h hc _ => trivial) (fun _ => rfl)
    (fun pre W => Blk W w.heap.size 28 #[.slice none 0 0] ∧ Below w.heap.size w W ∧ w3.heap.size ≤ W.heap.size) ?own (fun x A B row hs hg hr => hs) ⟨hL3, hbw3, Nat.le_refl _⟩
    (fun x => { tmps := #[(Value.pointer none), undef, (.slice none 0 0), (.pointer (some ⟨w.heap.size, 0, none⟩)), (.string x.1), (.string x.2), (.pointer none), (.func (.func 38) #[] #[.pointer (some ⟨w1.heap.size, 0, none⟩), .pointer (some ⟨w1.heap.size + 1, 0, none⟩)]), (.bool false), (.pointer none), (.func (.func 38) #[] #[.pointer (some ⟨w2.heap.size, 0, none⟩), .pointer (some ⟨w2.heap.size + 1, 0, none⟩)]), (.string x.1), (.string x.2), undef, undef, undef, undef, undef, undef, undef], defers := [] }) ?assign ?body ?done
  case own =>
    rintro pre A2 B2 row ⟨h1, h4, h5⟩ hgr hr
    have hrow : ∀ r, row = some r → ∃ o, A2.heap[r]? = some o ∧ o.isCells = false := fun r e => (hr r e).2
    refine ⟨h1.grown hgr (fun e => ?_), h4.grown hgr h4.size (fun k e => Nat.le_trans hbw3.size (hr k e).1), Nat.le_trans h5 hgr.size⟩
    obtain ⟨o, ho, hc⟩ := hrow _ e.symm
    unfold Blk at h1
    rw [h1] at ho
    cases ho
    cases hc
  case assign =>
    intro k x W K hK
    unfold enc2
    gi_wp2
    exact hK
  case body =>
    rintro lp pre x W _ hF
    exact hF.elim
  case done =>
    rintro D xs W hD hS ⟨h1, h4, h5⟩ hK
    have q1 := h1.cell 0
    rw [show (#[Value.slice none 0 0] : Array Value)[0]? = some (.slice none 0 0) from rfl] at q1
    go_wp2_with fail
    have hgr := grownBy_putObj' W D (.deferred none)
    refine ⟨by simp, .inl ⟨_, _, rfl, run_takeDeferred hK, ?_⟩⟩
    exact ⟨_, results_tmp rfl _ _ _, rfl, h4.grown hgr h4.size (fun k e => by cases e; have := hbw3.size; omega)⟩
end Go.Proofs.Ythfgblchlgodmaa
