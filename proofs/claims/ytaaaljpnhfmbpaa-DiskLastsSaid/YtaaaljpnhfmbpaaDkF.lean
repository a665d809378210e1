/- The walks of Append and Sync, whole (package disk), a disk that is not halted. Conditions: those of each theorem. -/
import Derived.Test.YtaaaljpnhfmbpaaDkE
namespace Go.Proofs.Ytaaaljpnhfmbpaa
open Go.RowKit
set_option linter.unusedVariables false

set_option maxRecDepth 20000 in
theorem append_call {B g r m cm : Nat} {fs : List FP} {st lf : Int} {M : Option Addr} {name : ByteArray} {l : List UInt8} (w : World) (h : DK B w g r fs st false lf) (hB : B ≤ w.heap.size) (hM : Reads w w.heap.size 1 M m (bvs l)) (Q : Int → World → Prop)
    (HD : Hid (∀ w1 bs bd bn bb, DK B w1 g r fs st false lf → B ≤ w1.heap.size → Below B w w1 → AppIn w1 g bs bd bn bb m cm M name l → Calls Try.prog 38 #[.pointer (some ⟨g, 0, none⟩), .agg (appStep bs bd bn bb)] w1 fun e w' => ∃ E, e = .returned (.int .i64 E) ∧ Q E w')) :
    Calls Try.prog 23 #[.pointer (some ⟨g, 0, none⟩), .string name, .slice M m cm] w fun e w' => ∃ E, e = .returned (.int .i64 E) ∧ Q E w' := by
  have d0 := ((Blk.new w 28 #[.pointer (some ⟨g, 0, none⟩)]).alloc (.cells #[.string name] 9)).alloc (.cells #[.slice M m cm] 35)
  have d1 := (Blk.new (w.alloc (.cells #[.pointer (some ⟨g, 0, none⟩)] 28)) 9 #[.string name]).alloc (.cells #[.slice M m cm] 35)
  have d2 := Blk.new ((w.alloc (.cells #[.pointer (some ⟨g, 0, none⟩)] 28)).alloc (.cells #[.string name] 9)) 35 #[.slice M m cm]
  rw [World.size_alloc] at d1
  rw [World.size_alloc, World.size_alloc] at d2
  have hb0 : Below w.heap.size w (((w.alloc (.cells #[.pointer (some ⟨g, 0, none⟩)] 28)).alloc (.cells #[.string name] 9)).alloc (.cells #[.slice M m cm] 35)) := (((Below.refl _ w).alloc (Nat.le_refl _) _).alloc (by simp) _).alloc (by simp; omega) _
  have c0 := d0.cell 0
  rw [show (#[Value.pointer (some ⟨g, 0, none⟩)] : Array Value)[0]? = some (.pointer (some ⟨g, 0, none⟩)) from rfl] at c0
  have c1 := d1.cell 0
  rw [show (#[Value.string name] : Array Value)[0]? = some (.string name) from rfl] at c1
  go_enter Try.func23, Try.ntmps23
  go_upto_region 1 with (fail)
  generalize ((w.alloc (.cells #[.pointer (some ⟨g, 0, none⟩)] 28)).alloc (.cells #[.string name] 9)).alloc (.cells #[.slice M m cm] 35) = w1 at *
  have h1 := h.below hb0
  have hM1 := (hM.below hb0).more hb0.size
  go_wp2_with (first
    | (go_at_call 38
       go_must (
       have hb1 : Below w1.heap.size w1 (w1.alloc (.cells #[.string name] 9)) := (Below.refl _ w1).alloc (Nat.le_refl _) _
       refine (HD.out (w1.alloc (.cells #[.string name] 9)) w1.heap.size w.heap.size (w.heap.size + 1) (w.heap.size + 1 + 1) (h1.below hb1) (Nat.le_trans hB (Nat.le_trans hb0.size hb1.size)) ((hb0.mono hB).trans (hb1.mono (Nat.le_trans hB hb0.size))) ⟨Blk.new w1 _ _, d0.below hb1 d0.lt, d1.below hb1 d1.lt, d2.below hb1 d2.lt, (hM1.below hb1).more hb1.size⟩).mono ?_
       rintro e w2 ⟨E, rfl, hq⟩))
    | fail)
  go_ret
  exact ⟨E, rfl, hq⟩

theorem run_neq_nil (w : World) : (binOp .neq 79 .nilFunc .nilFunc).run Try.prog w = .ok (.bool false) w := by kernel_rfl
abbrev syncStep (bs : Nat) : Array Value := #[.slice (some ⟨bs, 0, none⟩) 1 1, .bool true, .nilFunc, .func (.func 39) #[] #[]]
theorem DK.synced {B : Nat} {w : World} {g r : Nat} {fs : List FP} {st lf : Int} {en : Bool} {f : FP} (h : DK B w g r fs st en lf) (hf : f ∈ fs) : DK B (w.setCell ⟨f.p, 1, none⟩ (.int .i64 f.n)) g r (updF fs ⟨f.name, f.p, f.A, f.n, f.c, f.b, f.n⟩) st en lf := by
  have hff := h.2.2.2.2.1 f hf
  have hpo := zown_not hff.2.2.1 hff.1 (by decide)
  refine h.appended hf rfl rfl ⟨hff.1.set_ 1 _, hff.2.1, zown_far hff.2.2.1 (p := ⟨f.p, 1, none⟩) hpo _, Nat.le_refl _⟩ (h.2.2.2.1.setCell (p := ⟨f.p, 1, none⟩) (fun e => h.2.2.2.1.ne hff.1 e.symm) _) (fun k hk => .inl hk) ⟨by simp, fun k hk hkp _ _ => Below.heap_setCell w ⟨f.p, 1, none⟩ _ k hkp⟩

set_option maxHeartbeats 8000000 in
set_option maxRecDepth 20000 in
theorem done_sync_there {B g r bs : Nat} {fs : List FP} {st lf : Int} {name : ByteArray} {f : FP} (w : World) (h : DK B w g r fs st false lf) (hB : B ≤ w.heap.size) (hin : Blk w bs 9 (svs [name]).toArray) (hs : name.size ≤ 140737488351232) (hx : nameDS name = true) (hst0 : 0 ≤ st) (hst1 : st ≤ 1000000)
    (hfind : fs.find? (fun f => decide (f.name = name)) = some f) :
    Calls Try.prog 38 #[.pointer (some ⟨g, 0, none⟩), .agg (syncStep bs)] w fun e w' => e = .returned (.int .i64 0) ∧ DK B w' g r (updF fs ⟨f.name, f.p, f.A, f.n, f.c, f.b, f.n⟩) (st + 1) false lf ∧ Below B w w' := by
  have hb1 : Below w.heap.size w (w.alloc (.cells (syncStep bs) 81)) := (Below.refl _ w).alloc (Nat.le_refl _) _
  have hk1 := Blk.new w 81 (syncStep bs)
  have hin1 := hin.below hb1 hin.lt
  have h1 := h.below hb1
  have HB : Hid (badL [name] = false) := by show _ = _; unfold badL; simp [hx]
  have hpe := fun w => run_eql_disk w ⟨g, 0, none⟩
  have hme := fun w => run_eql_files w r
  have hne := fun w => run_neq_nil w
  have hwst : IntKind.i64.wrap (st + 1) = st + 1 := IntWalk.i64_in _ (by omega)
  have HF := hide hfind
  have hmem := List.mem_of_find?_eq_some hfind
  have hnm : f.name = name := by have := List.find?_some hfind; simpa using this
  clear hfind
  clear h hin hx
  go_enter Try.func38, Try.ntmps38
  go_upto_region 1 with (fail)
  generalize w.alloc (.cells (syncStep bs) 81) = w1 at *
  have c0 : w1.cell? ⟨g, 0, none⟩ = some (.map (some r)) := h1.1.cell 0
  have k0 : w1.cell? ⟨w.heap.size, 0, none⟩ = some (.slice (some ⟨bs, 0, none⟩) 1 1) := hk1.cell 0
  have HC := hide (contains_any (some ⟨bs, 0, none⟩) 1 1 [name] w1 (hin1.texts rfl) (by decide) (fun s hs' => by rw [List.mem_singleton.1 hs']; exact hs))
  rw [HB.out] at HC
  go_upto_region 5 with (first
    | (go_at_call 52; go_must (refine HC.out.mono ?_; rintro e w2 ⟨rfl, hb2⟩))
    | fail)
  have h2 := h1.below hb2
  have hk2 := hk1.below hb2 hk1.lt
  have hin2 := hin1.below hb2 hin1.lt
  have hbw2 : Below B w w2 := (hb1.mono hB).trans (hb2.mono (Nat.le_trans hB hb1.size))
  have hz2 : w.heap.size < w2.heap.size := hk2.lt
  clear h1 hk1 hin1 hb1 hb2 c0 k0 HC
  have c0 : w2.cell? ⟨g, 0, none⟩ = some (.map (some r)) := h2.1.cell 0
  have k0 : w2.cell? ⟨w.heap.size, 0, none⟩ = some (.slice (some ⟨bs, 0, none⟩) 1 1) := hk2.cell 0
  have n0 : w2.cell? ⟨bs, 0, none⟩ = some (.string name) := hin2.cell 0
  have hlk : ∀ n, (Instr.lookup 68 (.map (some r)) (.string name) true).run Try.prog (w2.drewN n) = .ok (.tuple #[.pointer (some ⟨f.p, 0, none⟩), .bool true]) (w2.drewN n) := fun n => by
    have := look_file (h2.drewN n).2.2.2.1 name
    rw [fkv_find, HF.out] at this
    exact this
  go_quiet (fail)
  have h3 := h2.drewN nq
  have hk3 := hk2.drewN nq
  have hbw3 : Below B w (w2.drewN nq) := below_drewN hbw2 _
  have hz3 : w.heap.size < (w2.drewN nq).heap.size := hz2
  clear h2 hk2 hin2 hbw2 hz2 c0 k0 n0 hlk
  generalize w2.drewN nq = w3 at *
  have k1 : w3.cell? ⟨w.heap.size, 1, none⟩ = some (.bool true) := hk3.cell 1
  have k2 : w3.cell? ⟨w.heap.size, 2, none⟩ = some .nilFunc := hk3.cell 2
  have g1 : w3.cell? ⟨g, 1, none⟩ = some (.int .i64 st) := h3.1.cell 1
  have g2 : w3.cell? ⟨g, 2, none⟩ = some (.bool false) := h3.1.cell 2
  have f1 := h3.1.frozen 1
  have k3 : (w3.setCell ⟨g, 1, none⟩ (.int .i64 (st + 1))).cell? ⟨w.heap.size, 3, none⟩ = some (.func (.func 39) #[] #[]) := (hk3.far (p := ⟨g, 1, none⟩) (hk3.ne_ h3.1 (by decide)) _).cell 3
  go_wp2_with (first
    | (go_at_call 39
       go_must (
       have h5 : DK B (w3.setCell ⟨g, 1, none⟩ (.int .i64 (st + 1))) g r fs (st + 1) false lf := h3.steps
       have hb5 : Below B w (w3.setCell ⟨g, 1, none⟩ (.int .i64 (st + 1))) := hbw3.setCell (p := ⟨g, 1, none⟩) h3.2.1 _
       generalize w3.setCell ⟨g, 1, none⟩ (.int .i64 (st + 1)) = w5 at *
       refine (sync1_any w5 (h5.2.2.2.2.1 f hmem).1).mono ?_
       rintro e w6 ⟨rfl, rfl⟩
       have h6 := h5.synced hmem
       have hb6 : Below B w (w5.setCell ⟨f.p, 1, none⟩ (.int .i64 f.n)) := hb5.setCell (p := ⟨f.p, 1, none⟩) (h5.2.2.2.2.1 f hmem).2.1 _))
    | fail)
  go_ret
  exact ⟨rfl, h6, hb6⟩
set_option maxRecDepth 20000 in
theorem sync_there {B g r : Nat} {fs : List FP} {st lf : Int} {name : ByteArray} {f : FP} (w : World) (h : DK B w g r fs st false lf) (hB : B ≤ w.heap.size) (hs : name.size ≤ 140737488351232) (hx : nameDS name = true) (hst0 : 0 ≤ st) (hst1 : st ≤ 1000000) (hfind : fs.find? (fun f => decide (f.name = name)) = some f) :
    Calls Try.prog 22 #[.pointer (some ⟨g, 0, none⟩), .string name] w fun e w' => e = .returned (.int .i64 0) ∧ DK B w' g r (updF fs ⟨f.name, f.p, f.A, f.n, f.c, f.b, f.n⟩) (st + 1) false lf ∧ Below B w w' := by
  have hb1 : Below w.heap.size w (w.alloc (.cells #[.string name] 9)) := (Below.refl _ w).alloc (Nat.le_refl _) _
  have H := hide (done_sync_there (w.alloc (.cells #[.string name] 9)) (h.below hb1) (Nat.le_trans hB hb1.size) (Blk.new w 9 (svs [name]).toArray) hs hx hst0 hst1 hfind)
  clear h
  go_enter Try.func22, Try.ntmps22
  go_wp2_with (first
    | (go_at_call 38
       go_must (
       refine H.out.mono ?_
       rintro e w2 ⟨rfl, h2, hb2⟩))
    | fail)
  go_ret
  exact ⟨rfl, h2, (hb1.mono hB).trans hb2⟩
end Go.Proofs.Ytaaaljpnhfmbpaa
