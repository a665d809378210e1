/- The walks of a disk's functions at a disk that is none (package disk). Conditions: those of each theorem. -/
import Derived.Test.YtaaaljpnhfmbpaaDkT
namespace Go.Proofs.Ytaaaljpnhfmbpaa
open Go.RowKit Go.Shelf
set_option linter.unusedVariables false
attribute [local go_sem] Oper.semAt_some

theorem run_eql_none (w : World) : (binOp .eql 28 (.pointer none) (.pointer none)).run Try.prog w = .ok (.bool true) w := by kernel_rfl
theorem run_neq_none (w : World) : (binOp .neq 28 (.pointer none) (.pointer none)).run Try.prog w = .ok (.bool false) w := by kernel_rfl
theorem done_nil (a b c d : Value) (w : World) : Calls Try.prog 38 #[.pointer none, .agg #[a, b, c, d]] w fun e w' => e = .returned (.int .i64 1) ∧ Below w.heap.size w w' := by
  have h := run_eql_none
  have hb := (Below.refl w.heap.size w).alloc (Nat.le_refl _) (.cells #[a, b, c, d] 81)
  go_enter Try.func38, Try.ntmps38
  go_wp2_with fail
  go_ret
  exact ⟨rfl, hb⟩
set_option maxRecDepth 20000 in
theorem append_nil {M : Option Addr} {m c : Nat} (s : ByteArray) (w : World) : Calls Try.prog 23 #[.pointer none, .string s, .slice M m c] w fun e w' => e = .returned (.int .i64 1) ∧ Below w.heap.size w w' := by
  have hb0 : Below w.heap.size w (((w.alloc (.cells #[.pointer none] 28)).alloc (.cells #[.string s] 9)).alloc (.cells #[.slice M m c] 35)) := (((Below.refl _ w).alloc (Nat.le_refl _) _).alloc (by simp) _).alloc (by simp; omega) _
  have d0 := ((Blk.new w 28 #[.pointer none]).alloc (.cells #[.string s] 9)).alloc (.cells #[.slice M m c] 35)
  have d1 := (Blk.new (w.alloc (.cells #[.pointer none] 28)) 9 #[.string s]).alloc (.cells #[.slice M m c] 35)
  rw [World.size_alloc] at d1
  have c0 := d0.cell 0
  rw [show (#[Value.pointer none] : Array Value)[0]? = some (.pointer none) from rfl] at c0
  have c1 := d1.cell 0
  rw [show (#[Value.string s] : Array Value)[0]? = some (.string s) from rfl] at c1
  go_enter Try.func23, Try.ntmps23
  go_upto_region 1 with (fail)
  generalize ((w.alloc (.cells #[.pointer none] 28)).alloc (.cells #[.string s] 9)).alloc (.cells #[.slice M m c] 35) = w1 at *
  have hb1 : Below w1.heap.size w1 (w1.alloc (.cells #[.string s] 9)) := (Below.refl _ w1).alloc (Nat.le_refl _) _
  go_wp2_with (first
    | (go_at_call 38; refine (done_nil _ _ _ _ _).mono ?_; rintro e w2 ⟨rfl, hb2⟩)
    | fail)
  go_ret
  exact ⟨rfl, hb0.trans ((hb1.trans (hb2.mono hb1.size)).mono hb0.size)⟩
theorem cut_nil (s : ByteArray) (z : Int) (w : World) : Calls Try.prog 32 #[.pointer none, .string s, .int .i64 z] w fun e w' => e = .returned (.int .i64 1) ∧ Below w.heap.size w w' := by
  have hb0 : Below w.heap.size w (w.alloc (.cells #[.int .i64 z] 3)) := (Below.refl _ w).alloc (Nat.le_refl _) _
  go_enter Try.func32, Try.ntmps32
  go_upto_region 1 with (fail)
  generalize w.alloc (.cells #[.int .i64 z] 3) = w1 at *
  have hb1 : Below w1.heap.size w1 (w1.alloc (.cells #[.string s] 9)) := (Below.refl _ w1).alloc (Nat.le_refl _) _
  go_wp2_with (first
    | (go_at_call 38; refine (done_nil _ _ _ _ _).mono ?_; rintro e w2 ⟨rfl, hb2⟩)
    | fail)
  go_ret
  exact ⟨rfl, hb0.trans ((hb1.trans (hb2.mono hb1.size)).mono hb0.size)⟩
theorem sync_nil (s : ByteArray) (w : World) : Calls Try.prog 22 #[.pointer none, .string s] w fun e w' => e = .returned (.int .i64 1) ∧ Below w.heap.size w w' := by
  have hb1 : Below w.heap.size w (w.alloc (.cells #[.string s] 9)) := (Below.refl _ w).alloc (Nat.le_refl _) _
  go_enter Try.func22, Try.ntmps22
  go_wp2_with (first
    | (go_at_call 38; refine (done_nil _ _ _ _ _).mono ?_; rintro e w2 ⟨rfl, hb2⟩)
    | fail)
  go_ret
  exact ⟨rfl, hb1.trans (hb2.mono hb1.size)⟩
set_option maxRecDepth 20000 in
theorem rename_nil (s t : ByteArray) (w : World) : Calls Try.prog 33 #[.pointer none, .string s, .string t] w fun e w' => e = .returned (.int .i64 1) ∧ Below w.heap.size w w' := by
  have hb0 : Below w.heap.size w (((w.alloc (.cells #[.pointer none] 28)).alloc (.cells #[.string s] 9)).alloc (.cells #[.string t] 9)) := (((Below.refl _ w).alloc (Nat.le_refl _) _).alloc (by simp) _).alloc (by simp; omega) _
  have d0 := ((Blk.new w 28 #[.pointer none]).alloc (.cells #[.string s] 9)).alloc (.cells #[.string t] 9)
  have d1 := (Blk.new (w.alloc (.cells #[.pointer none] 28)) 9 #[.string s]).alloc (.cells #[.string t] 9)
  have d2 := Blk.new ((w.alloc (.cells #[.pointer none] 28)).alloc (.cells #[.string s] 9)) 9 #[.string t]
  rw [World.size_alloc] at d1
  rw [World.size_alloc, World.size_alloc] at d2
  have c0 := d0.cell 0
  rw [show (#[Value.pointer none] : Array Value)[0]? = some (.pointer none) from rfl] at c0
  have c1 := d1.cell 0
  rw [show (#[Value.string s] : Array Value)[0]? = some (.string s) from rfl] at c1
  have c2 := d2.cell 0
  rw [show (#[Value.string t] : Array Value)[0]? = some (.string t) from rfl] at c2
  go_enter Try.func33, Try.ntmps33
  go_upto_region 1 with (fail)
  generalize ((w.alloc (.cells #[.pointer none] 28)).alloc (.cells #[.string s] 9)).alloc (.cells #[.string t] 9) = w1 at *
  have hb1 : Below w1.heap.size w1 (w1.alloc (.cells #[.string s, .string t] 9)) := (Below.refl _ w1).alloc (Nat.le_refl _) _
  go_wp2_with (first
    | (go_at_call 38; refine (done_nil _ _ _ _ _).mono ?_; rintro e w2 ⟨rfl, hb2⟩)
    | fail)
  go_ret
  exact ⟨rfl, hb0.trans ((hb1.trans (hb2.mono hb1.size)).mono hb0.size)⟩
theorem remove_nil (s : ByteArray) (w : World) : Calls Try.prog 34 #[.pointer none, .string s] w fun e w' => e = .returned (.int .i64 1) ∧ Below w.heap.size w w' := by
  have hb0 : Below w.heap.size w ((w.alloc (.cells #[.pointer none] 28)).alloc (.cells #[.string s] 9)) := ((Below.refl _ w).alloc (Nat.le_refl _) _).alloc (by simp) _
  have d0 := (Blk.new w 28 #[.pointer none]).alloc (.cells #[.string s] 9)
  have d1 := Blk.new (w.alloc (.cells #[.pointer none] 28)) 9 #[.string s]
  rw [World.size_alloc] at d1
  have c0 := d0.cell 0
  rw [show (#[Value.pointer none] : Array Value)[0]? = some (.pointer none) from rfl] at c0
  have c1 := d1.cell 0
  rw [show (#[Value.string s] : Array Value)[0]? = some (.string s) from rfl] at c1
  go_enter Try.func34, Try.ntmps34
  go_upto_region 1 with (fail)
  generalize (w.alloc (.cells #[.pointer none] 28)).alloc (.cells #[.string s] 9) = w1 at *
  have hb1 : Below w1.heap.size w1 (w1.alloc (.cells #[.string s] 9)) := (Below.refl _ w1).alloc (Nat.le_refl _) _
  go_wp2_with (first
    | (go_at_call 38; refine (done_nil _ _ _ _ _).mono ?_; rintro e w2 ⟨rfl, hb2⟩)
    | fail)
  go_ret
  exact ⟨rfl, hb0.trans ((hb1.trans (hb2.mono hb1.size)).mono hb0.size)⟩
theorem read_nil (s : ByteArray) (w : World) : Calls Try.prog 18 #[.pointer none, .string s] w fun e w' => e = .returned (.tuple #[.slice none 0 0, .int .i64 1]) ∧ w = w' := by
  have h := run_eql_none
  go_enter Try.func18, Try.ntmps18
  go_wp2_with fail
  go_ret2
  exact ⟨rfl, rfl⟩
theorem halt_nil (z : Int) (w : World) : Calls Try.prog 29 #[.pointer none, .int .i64 z] w fun e w' => e = .returned (.tuple #[]) ∧ w = w' := by
  have h := run_neq_none
  go_enter Try.func29, Try.ntmps29
  go_wp2_with fail
  go_end0
  exact ⟨rfl, rfl⟩
theorem steps_nil (w : World) : Calls Try.prog 21 #[.pointer none] w fun e w' => e = .returned (.int .i64 0) ∧ w = w' := by
  have h := run_eql_none
  go_enter Try.func21, Try.ntmps21
  go_wp2_with fail
  go_ret
  exact ⟨rfl, rfl⟩
set_option maxHeartbeats 2000000 in
set_option maxRecDepth 100000 in
theorem crash_nil {M : Option Addr} {m c : Nat} (w : World) : Calls Try.prog 24 #[.pointer none, .slice M m c] w fun e w' => e = .returned (.pointer none) ∧ Below w.heap.size w w' := by
  have h := run_eql_none
  have hb := (Below.refl w.heap.size w).alloc (Nat.le_refl _) (.cells #[.slice M m c] 42)
  refine (callsIn_wide (n := 5)).1 ?_
  refine callsIn_of_wp_marks Try.func24 rfl trivial ?_ rfl
  simp only [Try.ntmps24, List.size_toArray, List.length_cons, List.length_nil, Nat.reduceAdd, Nat.reduceSub, Array.replicate_succ, Array.replicate_zero, List.push_toArray, List.append_toArray, List.nil_append, List.cons_append]
  refine wpIn_wide.2 ?_
  go_wp2_with fail
  exact ⟨_, results_tmp rfl _ _ _, rfl, hb⟩
theorem dall1_nil (m : Nat) (bx : Nat) (w : World) (h1 : Blk w bx 28 #[.pointer none]) :
    SeqToldP Fence.wide m Try.prog 49 #[.pointer (some ⟨bx, 0, none⟩)] encF (fun _ _ _ => False) (fun _ _ => True) (fun xs => xs = []) w := by
  intro lp J W hW hJ hY h0
  have c1 : W.cell? ⟨bx, 0, none⟩ = some (.pointer none) := (h1.below hW h1.lt).cell 0
  have h := run_eql_none
  refine callsIn_of_wp Try.func49 rfl trivial ?_ rfl
  simp only [Try.ntmps49, List.size_toArray, List.length_cons, List.length_nil, Nat.reduceAdd, Nat.reduceSub, Array.replicate_succ, Array.replicate_zero, List.push_toArray, List.append_toArray, List.nil_append, List.cons_append]
  gi_wp2_with fail
  refine bodyPost_ret (results_none rfl _ _ _) rfl ?_
  first | exact ⟨⟨_, rfl⟩, [], rfl, h0⟩ | exact ⟨⟨_, rfl⟩, h0⟩
theorem dall_nil (w : World) :
    Calls Try.prog 37 #[.pointer none] w fun e w' => e = .returned (.func (.func 49) #[] #[.pointer (some ⟨w.heap.size, 0, none⟩)]) ∧ w' = w.alloc (.cells #[.pointer none] 28) := by
  go_enter Try.func37, Try.ntmps37
  go_wp2_with fail
  go_ret
  exact ⟨rfl, rfl⟩
set_option maxHeartbeats 2000000 in
theorem files_nil (w : World) : Calls Try.prog 20 #[.pointer none] w fun e w' => e = .returned (.slice none 0 0) ∧ Below w.heap.size w w' := by
  refine (callsIn_wide (n := 5)).1 ?_
  refine callsIn_of_wp_marks Try.func20 rfl trivial ?_ rfl
  simp only [Try.ntmps20, List.size_toArray, List.length_cons, List.length_nil, Nat.reduceAdd, Nat.reduceSub, Array.replicate_succ, Array.replicate_zero, List.push_toArray, List.append_toArray, List.nil_append, List.cons_append]
  refine wpIn_wide.2 ?_
  have hL0 := Blk.new w 24 #[.slice none 0 0]
  have hb0 : Below w.heap.size w (w.alloc (.cells #[.slice none 0 0] 24)) := (Below.refl _ w).alloc (Nat.le_refl _) _
  go_upto_region 2 with (fail)
  generalize w.alloc (.cells #[.slice none 0 0] 24) = w1 at *
  have hb1 : Below w1.heap.size w1 (w1.alloc (.cells #[.pointer none] 28)) := (Below.refl _ w1).alloc (Nat.le_refl _) _
  have hk2 := Blk.new w1 28 #[.pointer none]
  have hL2 := hL0.below hb1 hL0.lt
  have hbw2 := hb0.trans (hb1.mono hb0.size)
  go_wp2_with (first
    | (go_at_call 37
       go_must (
       refine (dall_nil w1).mono ?_
       rintro e w2 ⟨rfl, rfl⟩))
    | fail)
  generalize w1.alloc (.cells #[.pointer none] 28) = w2 at *
  refine (wpIn_wide (n := 5)).1 ?_
  refine range_toldP rfl (by omega) (gf := 49) (lb := #[.pointer (some ⟨w1.heap.size, 0, none⟩)]) rfl trivial (enters_of Try.func49 (by kernel_rfl) rfl)
    (dall1_nil _ w1.heap.size w2 hk2) (fun _ _ => trivial) (fun W k o o' _ h hc _ => trivial) (fun _ => rfl)
    (fun pre W => Blk W w.heap.size 24 #[.slice none 0 0] ∧ Below w.heap.size w W ∧ w2.heap.size ≤ W.heap.size) ?own (fun x A B row hs hg hr => hs) ⟨hL2, hbw2, Nat.le_refl _⟩
    (fun x => { tmps := #[(Value.pointer none), undef, (.slice none 0 0), (.pointer (some ⟨w.heap.size, 0, none⟩)), (.string x.name), (.pointer (some ⟨x.p, 0, none⟩)), (.pointer none), (.func (.func 49) #[] #[.pointer (some ⟨w1.heap.size, 0, none⟩)]), (.string x.name), (.pointer (some ⟨x.p, 0, none⟩)), undef, undef, undef, undef, undef, undef, undef, undef, undef, undef, undef, undef, undef, undef, undef], defers := [] }) ?assign ?body ?done
  case own =>
    rintro pre A2 B2 row ⟨h1, h4, h5⟩ hgr hr
    have hrow : ∀ r, row = some r → ∃ o, A2.heap[r]? = some o ∧ o.isCells = false := fun r e => (hr r e).2
    exact ⟨h1.grownN hgr hrow, h4.grown hgr h4.size (fun k e => Nat.le_trans hbw2.size (hr k e).1), Nat.le_trans h5 hgr.size⟩
  case assign =>
    intro k x W K hK
    unfold encF
    gi_wp2
    exact hK
  case body =>
    rintro lp pre x W _ hF
    exact hF.elim
  case done =>
    rintro D xs W hD hS ⟨h1, h4, h5⟩ hK
    have q1 := h1.cell 0
    rw [show (#[Value.slice none 0 0] : Array Value)[0]? = some (.slice none 0 0) from rfl] at q1
    go_wp2_with fail
    have hgr := grownBy_putObj' W D (.deferred none)
    refine ⟨by simp, .inl ⟨_, _, rfl, run_takeDeferred hK, ?_⟩⟩
    exact ⟨_, results_tmp rfl _ _ _, rfl, h4.grown hgr h4.size (fun k e => by cases e; have := hbw2.size; omega)⟩
end Go.Proofs.Ytaaaljpnhfmbpaa
