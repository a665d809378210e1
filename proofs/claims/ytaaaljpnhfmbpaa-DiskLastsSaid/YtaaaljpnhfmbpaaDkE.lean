/- The walk of done for an Append, a Sync (package disk), a disk that is not halted. Conditions: those of each theorem. -/
import Derived.Test.YtaaaljpnhfmbpaaDkD
namespace Go.Proofs.Ytaaaljpnhfmbpaa
open Go.RowKit
set_option linter.unusedVariables false

theorem zero_file (w : World) : (zeroValue 65).run Try.prog w = .ok (.pointer none) w := by kernel_rfl
theorem run_eql_disk (w : World) (p : Addr) : (binOp .eql 28 (.pointer (some p)) (.pointer none)).run Try.prog w = .ok (.bool false) w := by kernel_rfl
theorem run_eql_files (w : World) (r : Nat) : (binOp .eql 68 (.map (some r)) (.map none)).run Try.prog w = .ok (.bool false) w := by kernel_rfl
theorem run_equalIn_ref (d : Nat) (f : Fn) (x y : Array Value) (w : World) : (Op.equalIn (d + 1) 79 (.func f x y) .nilFunc).run Try.prog w = .ok false w := by
  simp [Op.equalIn, run_underlying Try.underlying79]
theorem run_neq_ref (f : Fn) (x y : Array Value) (w : World) : (binOp .neq 79 (.func f x y) .nilFunc).run Try.prog w = .ok (.bool true) w := by
  simp only [binOp]
  simp [Op.equal, Op.maxDepth, run_equalIn_ref 9999 f x y w]
theorem look_file {w : World} {r : Nat} {kvs : List KV} (h : Ms w r kvs) (k : ByteArray) : (Instr.lookup 68 (.map (some r)) (.string k) true).run Try.prog w = .ok (.tuple #[(lookS kvs k).getD (.pointer none), .bool (lookS kvs k).isSome]) w := (Ms.lookup Try.underlying68 Try.underlying9 h k zero_file).1

/-- what done finds of an Append's in memory -/
structure AppIn (w : World) (g bs bd bn bb m cm : Nat) (M : Option Addr) (name : ByteArray) (l : List UInt8) : Prop where
  names : Blk w bs 9 (svs [name]).toArray
  disk : Blk w bd 28 #[.pointer (some ⟨g, 0, none⟩)]
  name : Blk w bn 9 #[.string name]
  bytes : Blk w bb 35 #[.slice M m cm]
  reads : Reads w w.heap.size 1 M m (bvs l)
theorem AppIn.below {w w' : World} {g bs bd bn bb m cm : Nat} {M : Option Addr} {name : ByteArray} {l : List UInt8} (h : AppIn w g bs bd bn bb m cm M name l) (hb : Below w.heap.size w w') : AppIn w' g bs bd bn bb m cm M name l :=
  ⟨h.names.below hb h.names.lt, h.disk.below hb h.disk.lt, h.name.below hb h.name.lt, h.bytes.below hb h.bytes.lt, (h.reads.below hb).more hb.size⟩
abbrev appStep (bs bd bn bb : Nat) : Array Value := #[.slice (some ⟨bs, 0, none⟩) 1 1, .bool false, .func (.func 40) #[] #[.pointer (some ⟨bb, 0, none⟩)], .func (.func 41) #[] #[.pointer (some ⟨bb, 0, none⟩), .pointer (some ⟨bd, 0, none⟩), .pointer (some ⟨bn, 0, none⟩)]]

set_option maxHeartbeats 4000000 in
set_option maxRecDepth 20000 in
theorem done_app_bad {B g r bs bd bn bb m cm : Nat} {fs : List FP} {st lf : Int} {M : Option Addr} {name : ByteArray} {l : List UInt8} (w : World) (h : DK B w g r fs st false lf) (hB : B ≤ w.heap.size) (hin : AppIn w g bs bd bn bb m cm M name l) (hs : name.size ≤ 140737488351232) (hx : nameDS name = false) :
    Calls Try.prog 38 #[.pointer (some ⟨g, 0, none⟩), .agg (appStep bs bd bn bb)] w fun e w' => e = .returned (.int .i64 2) ∧ DK B w' g r fs st false lf ∧ Below B w w' := by
  have hb1 : Below w.heap.size w (w.alloc (.cells (appStep bs bd bn bb) 81)) := (Below.refl _ w).alloc (Nat.le_refl _) _
  have hk1 := Blk.new w 81 (appStep bs bd bn bb)
  have hin1 := hin.below hb1
  have h1 := h.below hb1
  have HB : Hid (badL [name] = true) := by show _ = _; unfold badL; simp [hx]
  have hpe := fun w => run_eql_disk w ⟨g, 0, none⟩
  have hme := fun w => run_eql_files w r
  go_enter Try.func38, Try.ntmps38
  go_upto_region 1 with (fail)
  generalize w.alloc (.cells (appStep bs bd bn bb) 81) = w1 at *
  have c0 : w1.cell? ⟨g, 0, none⟩ = some (.map (some r)) := h1.1.cell 0
  have k0 : w1.cell? ⟨w.heap.size, 0, none⟩ = some (.slice (some ⟨bs, 0, none⟩) 1 1) := hk1.cell 0
  have HC := hide (contains_any (some ⟨bs, 0, none⟩) 1 1 [name] w1 (hin1.names.texts rfl) (by decide) (fun s hs' => by rw [List.mem_singleton.1 hs']; exact hs))
  rw [HB.out] at HC
  go_wp2_with (first
    | (go_at_call 52; go_must (refine HC.out.mono ?_; rintro e w2 ⟨rfl, hb2⟩))
    | fail)
  go_ret
  exact ⟨rfl, h1.below hb2, (hb1.mono hB).trans (hb2.mono (Nat.le_trans hB hb1.size))⟩
theorem Reads.notDisk {w : World} {g r m : Nat} {st lf : Int} {en : Bool} {B : Nat} {M : Option Addr} {l : List UInt8} (h : Reads w B 1 M m (bvs l)) (hg : Blk w g 70 (kcells r st en lf)) (u : Value) : Reads (w.setCell ⟨g, 1, none⟩ u) B 1 M m (bvs l) := by
  refine ⟨h.1, fun h0 => ?_⟩
  obtain ⟨b, o, e, hb, hc⟩ := h.2 h0
  refine ⟨b, o, e, hb, fun j v hv => ?_⟩
  have h1 := hc j v hv
  by_cases hbg : b = g
  · exfalso
    subst hbg
    rw [hg.cell] at h1
    obtain ⟨y, hy⟩ : ∃ y : UInt8, v = .int .u8 (y.toNat : Int) := by
      rw [bvs_at] at hv
      cases hx : l[j]? with
      | none => rw [hx] at hv; cases hv
      | some y => rw [hx] at hv; injection hv with hv; exact ⟨y, hv.symm⟩
    subst hy
    match ho : o + j, h1 with
    | 0, h1 => simp at h1
    | 1, h1 => simp at h1
    | 2, h1 => simp at h1
    | 3, h1 => simp at h1
    | q + 4, h1 => simp at h1
  · rw [World.cell?_setCell_other _ ⟨g, 1, none⟩ ⟨b, o + j, none⟩ _ (fun e => by injection e with e; exact hbg e.symm)]
    exact h1
theorem AppIn.far {w : World} {g r bs bd bn bb m cm : Nat} {M : Option Addr} {name : ByteArray} {l : List UInt8} {st lf : Int} {en : Bool} (h : AppIn w g bs bd bn bb m cm M name l) (hg : Blk w g 70 (kcells r st en lf)) (u : Value) : AppIn (w.setCell ⟨g, 1, none⟩ u) g bs bd bn bb m cm M name l :=
  ⟨h.names.far (p := ⟨g, 1, none⟩) (h.names.ne_ hg (by decide)) u, h.disk.far (p := ⟨g, 1, none⟩) (h.disk.ne_ hg (by decide)) u, h.name.far (p := ⟨g, 1, none⟩) (h.name.ne_ hg (by decide)) u, h.bytes.far (p := ⟨g, 1, none⟩) (h.bytes.ne_ hg (by decide)) u, by
    have := h.reads.notDisk hg u
    rw [show (w.setCell ⟨g, 1, none⟩ u).heap.size = w.heap.size from by simp]
    exact this⟩

set_option maxHeartbeats 8000000 in
set_option maxRecDepth 20000 in
theorem done_app_there {B g r bs bd bn bb m cm : Nat} {fs : List FP} {st lf : Int} {M : Option Addr} {name : ByteArray} {l : List UInt8} {f : FP} (w : World) (h : DK B w g r fs st false lf) (hB : B ≤ w.heap.size) (hin : AppIn w g bs bd bn bb m cm M name l) (hs : name.size ≤ 140737488351232) (hx : nameDS name = true) (hm : m ≤ 100000000) (hst0 : 0 ≤ st) (hst1 : st ≤ 1000000)
    (hfind : fs.find? (fun f => decide (f.name = name)) = some f) (hfit : f.n + m ≤ 1048576) :
    Calls Try.prog 38 #[.pointer (some ⟨g, 0, none⟩), .agg (appStep bs bd bn bb)] w fun e w' => e = .returned (.int .i64 0) ∧ ∃ A' c', DK B w' g r (updF fs ⟨name, f.p, A', f.n + m, c', f.b ++ l, f.sy⟩) (st + 1) false lf ∧ Below B w w' := by
  have hb1 : Below w.heap.size w (w.alloc (.cells (appStep bs bd bn bb) 81)) := (Below.refl _ w).alloc (Nat.le_refl _) _
  have hk1 := Blk.new w 81 (appStep bs bd bn bb)
  have hin1 := hin.below hb1
  have h1 := h.below hb1
  have HB : Hid (badL [name] = false) := by show _ = _; unfold badL; simp [hx]
  have hpe := fun w => run_eql_disk w ⟨g, 0, none⟩
  have hme := fun w => run_eql_files w r
  have hne := fun x y w => run_neq_ref (.func 40) x y w
  have hwst : IntKind.i64.wrap (st + 1) = st + 1 := IntWalk.i64_in _ (by omega)
  have HF := hide hfind
  have hmem := List.mem_of_find?_eq_some hfind
  have hnm : f.name = name := by have := List.find?_some hfind; simpa using this
  clear hfind
  have hfn : f.n ≤ 1048576 := by omega
  clear h hin hx
  go_enter Try.func38, Try.ntmps38
  go_upto_region 1 with (fail)
  generalize w.alloc (.cells (appStep bs bd bn bb) 81) = w1 at *
  have c0 : w1.cell? ⟨g, 0, none⟩ = some (.map (some r)) := h1.1.cell 0
  have k0 : w1.cell? ⟨w.heap.size, 0, none⟩ = some (.slice (some ⟨bs, 0, none⟩) 1 1) := hk1.cell 0
  have HC := hide (contains_any (some ⟨bs, 0, none⟩) 1 1 [name] w1 (hin1.names.texts rfl) (by decide) (fun s hs' => by rw [List.mem_singleton.1 hs']; exact hs))
  rw [HB.out] at HC
  go_upto_region 5 with (first
    | (go_at_call 52; go_must (refine HC.out.mono ?_; rintro e w2 ⟨rfl, hb2⟩))
    | fail)
  have h2 := h1.below hb2
  have hk2 := hk1.below hb2 hk1.lt
  have hin2 := hin1.below hb2
  have hbw2 : Below B w w2 := (hb1.mono hB).trans (hb2.mono (Nat.le_trans hB hb1.size))
  have hz2 : w.heap.size < w2.heap.size := hk2.lt
  clear h1 hk1 hin1 hb1 hb2 c0 k0 HC
  have c0 : w2.cell? ⟨g, 0, none⟩ = some (.map (some r)) := h2.1.cell 0
  have k0 : w2.cell? ⟨w.heap.size, 0, none⟩ = some (.slice (some ⟨bs, 0, none⟩) 1 1) := hk2.cell 0
  have n0 : w2.cell? ⟨bs, 0, none⟩ = some (.string name) := hin2.names.cell 0
  have hlk : ∀ n, (Instr.lookup 68 (.map (some r)) (.string name) true).run Try.prog (w2.drewN n) = .ok (.tuple #[.pointer (some ⟨f.p, 0, none⟩), .bool true]) (w2.drewN n) := fun n => by
    have := look_file (h2.drewN n).2.2.2.1 name
    rw [fkv_find, HF.out] at this
    exact this
  go_quiet (fail)
  have h3 := h2.drewN nq
  have hk3 := hk2.drewN nq
  have hin3 : AppIn (w2.drewN nq) g bs bd bn bb m cm M name l := ⟨hin2.names, hin2.disk, hin2.name, hin2.bytes, hin2.reads⟩
  have hbw3 : Below B w (w2.drewN nq) := below_drewN hbw2 _
  have hz3 : w.heap.size < (w2.drewN nq).heap.size := hz2
  clear h2 hk2 hin2 hbw2 hz2 c0 k0 n0 hlk
  generalize w2.drewN nq = w3 at *
  have k1 : w3.cell? ⟨w.heap.size, 1, none⟩ = some (.bool false) := hk3.cell 1
  have k2 : w3.cell? ⟨w.heap.size, 2, none⟩ = some (.func (.func 40) #[] #[.pointer (some ⟨bb, 0, none⟩)]) := hk3.cell 2
  have H1 := hide (append1_any w3 (h3.2.2.2.2.1 f hmem).1 hin3.bytes hfn hm)
  rw [if_neg (show ¬ 1048576 < f.n + m by omega)] at H1
  go_wp2_with (first
    | (go_at_call 40
       go_must (
       refine H1.out.mono ?_
       rintro e w4 ⟨rfl, m4, hw4⟩
       have h4 : DK B w4 g r fs st false lf := by rw [hw4]; exact h3.drewN m4
       have hk4 : Blk w4 w.heap.size 81 (appStep bs bd bn bb) := by rw [hw4]; exact hk3.drewN m4
       have hin4 : AppIn w4 g bs bd bn bb m cm M name l := by rw [hw4]; exact ⟨hin3.names, hin3.disk, hin3.name, hin3.bytes, hin3.reads⟩
       have hbw4 : Below B w w4 := by rw [hw4]; exact below_drewN hbw3 _
       have hz4 : w.heap.size < w4.heap.size := by rw [hw4]; exact hz3
       clear hw4 h3 hk3 hin3 hbw3 hz3 k1 k2 H1
       have g1 : w4.cell? ⟨g, 1, none⟩ = some (.int .i64 st) := h4.1.cell 1
       have g2 : w4.cell? ⟨g, 2, none⟩ = some (.bool false) := h4.1.cell 2
       have f1 := h4.1.frozen 1
       have k3 : (w4.setCell ⟨g, 1, none⟩ (.int .i64 (st + 1))).cell? ⟨w.heap.size, 3, none⟩ = some (.func (.func 41) #[] #[.pointer (some ⟨bb, 0, none⟩), .pointer (some ⟨bd, 0, none⟩), .pointer (some ⟨bn, 0, none⟩)]) := (hk4.far (p := ⟨g, 1, none⟩) (hk4.ne_ h4.1 (by decide)) _).cell 3))
    | (go_at_call 41
       go_must (
       have h5 : DK B (w4.setCell ⟨g, 1, none⟩ (.int .i64 (st + 1))) g r fs (st + 1) false lf := h4.steps
       have hin5 : AppIn (w4.setCell ⟨g, 1, none⟩ (.int .i64 (st + 1))) g bs bd bn bb m cm M name l := hin4.far h4.1 _
       have hb5 : Below B w (w4.setCell ⟨g, 1, none⟩ (.int .i64 (st + 1))) := hbw4.setCell (p := ⟨g, 1, none⟩) h4.2.1 _
       generalize w4.setCell ⟨g, 1, none⟩ (.int .i64 (st + 1)) = w5 at *
       have hff := h5.2.2.2.2.1 f hmem
       refine (append2_any (B := B) (b := f.b) (kvs := fs.map fkv) (lf := lf) (st := st + 1) (en := false) w5 hff.1 hff.2.2.1 hin5.bytes hin5.reads hin5.disk hin5.name h5.1 h5.2.2.2.1 (Nat.le_trans hB hb5.size) hff.2.1 h5.2.2.1 hfit).mono ?_
       rintro e w6 ⟨rfl, A6, c6, hp6, ho6, hm6, hb6, hv6, hk6⟩
       have hm6' : Ms w6 r (fs.map fkv) := by
         rw [put_same (by rw [fkv_find, HF.out]; rfl)] at hm6
         exact hm6
       have h6 : DK B w6 g r (updF fs ⟨name, f.p, A6, f.n + m, c6, f.b ++ l, f.sy⟩) (st + 1) false lf := h5.appended hmem rfl hnm.symm ⟨hp6, hff.2.1, ho6, Nat.le_trans hff.2.2.2 (Nat.le_add_right _ _)⟩ hm6' hv6 hk6
       have hbw6 := hb5.trans hb6))
    | fail)
  go_ret
  exact ⟨rfl, A6, c6, h6, hbw6⟩

set_option maxHeartbeats 8000000 in
set_option maxRecDepth 20000 in
theorem done_app_full {B g r bs bd bn bb m cm : Nat} {fs : List FP} {st lf : Int} {M : Option Addr} {name : ByteArray} {l : List UInt8} {f : FP} (w : World) (h : DK B w g r fs st false lf) (hB : B ≤ w.heap.size) (hin : AppIn w g bs bd bn bb m cm M name l) (hs : name.size ≤ 140737488351232) (hx : nameDS name = true) (hm : m ≤ 100000000) (hst0 : 0 ≤ st) (hst1 : st ≤ 1000000)
    (hfind : fs.find? (fun f => decide (f.name = name)) = some f) (hfn : f.n ≤ 1048576) (hfit : ¬ f.n + m ≤ 1048576) :
    Calls Try.prog 38 #[.pointer (some ⟨g, 0, none⟩), .agg (appStep bs bd bn bb)] w fun e w' => e = .returned (.int .i64 3) ∧ DK B w' g r fs st false lf ∧ Below B w w' := by
  have hb1 : Below w.heap.size w (w.alloc (.cells (appStep bs bd bn bb) 81)) := (Below.refl _ w).alloc (Nat.le_refl _) _
  have hk1 := Blk.new w 81 (appStep bs bd bn bb)
  have hin1 := hin.below hb1
  have h1 := h.below hb1
  have HB : Hid (badL [name] = false) := by show _ = _; unfold badL; simp [hx]
  have hpe := fun w => run_eql_disk w ⟨g, 0, none⟩
  have hme := fun w => run_eql_files w r
  have hne := fun x y w => run_neq_ref (.func 40) x y w
  have hwst : IntKind.i64.wrap (st + 1) = st + 1 := IntWalk.i64_in _ (by omega)
  have HF := hide hfind
  have hmem := List.mem_of_find?_eq_some hfind
  clear hfind
  clear h hin hx
  go_enter Try.func38, Try.ntmps38
  go_upto_region 1 with (fail)
  generalize w.alloc (.cells (appStep bs bd bn bb) 81) = w1 at *
  have c0 : w1.cell? ⟨g, 0, none⟩ = some (.map (some r)) := h1.1.cell 0
  have k0 : w1.cell? ⟨w.heap.size, 0, none⟩ = some (.slice (some ⟨bs, 0, none⟩) 1 1) := hk1.cell 0
  have HC := hide (contains_any (some ⟨bs, 0, none⟩) 1 1 [name] w1 (hin1.names.texts rfl) (by decide) (fun s hs' => by rw [List.mem_singleton.1 hs']; exact hs))
  rw [HB.out] at HC
  go_upto_region 5 with (first
    | (go_at_call 52; go_must (refine HC.out.mono ?_; rintro e w2 ⟨rfl, hb2⟩))
    | fail)
  have h2 := h1.below hb2
  have hk2 := hk1.below hb2 hk1.lt
  have hin2 := hin1.below hb2
  have hbw2 : Below B w w2 := (hb1.mono hB).trans (hb2.mono (Nat.le_trans hB hb1.size))
  have hz2 : w.heap.size < w2.heap.size := hk2.lt
  clear h1 hk1 hin1 hb1 hb2 c0 k0 HC
  have c0 : w2.cell? ⟨g, 0, none⟩ = some (.map (some r)) := h2.1.cell 0
  have k0 : w2.cell? ⟨w.heap.size, 0, none⟩ = some (.slice (some ⟨bs, 0, none⟩) 1 1) := hk2.cell 0
  have n0 : w2.cell? ⟨bs, 0, none⟩ = some (.string name) := hin2.names.cell 0
  have hlk : ∀ n, (Instr.lookup 68 (.map (some r)) (.string name) true).run Try.prog (w2.drewN n) = .ok (.tuple #[.pointer (some ⟨f.p, 0, none⟩), .bool true]) (w2.drewN n) := fun n => by
    have := look_file (h2.drewN n).2.2.2.1 name
    rw [fkv_find, HF.out] at this
    exact this
  go_quiet (fail)
  have h3 := h2.drewN nq
  have hk3 := hk2.drewN nq
  have hin3 : AppIn (w2.drewN nq) g bs bd bn bb m cm M name l := ⟨hin2.names, hin2.disk, hin2.name, hin2.bytes, hin2.reads⟩
  have hbw3 : Below B w (w2.drewN nq) := below_drewN hbw2 _
  have hz3 : w.heap.size < (w2.drewN nq).heap.size := hz2
  clear h2 hk2 hin2 hbw2 hz2 c0 k0 n0 hlk
  generalize w2.drewN nq = w3 at *
  have k1 : w3.cell? ⟨w.heap.size, 1, none⟩ = some (.bool false) := hk3.cell 1
  have k2 : w3.cell? ⟨w.heap.size, 2, none⟩ = some (.func (.func 40) #[] #[.pointer (some ⟨bb, 0, none⟩)]) := hk3.cell 2
  have H1 := hide (append1_any w3 (h3.2.2.2.2.1 f hmem).1 hin3.bytes hfn hm)
  rw [if_pos (show 1048576 < f.n + m by omega)] at H1
  go_wp2_with (first
    | (go_at_call 40
       go_must (
       refine H1.out.mono ?_
       rintro e w4 ⟨rfl, m4, hw4⟩))
    | fail)
  go_ret
  exact ⟨rfl, h3.drewN m4, below_drewN hbw3 _⟩

set_option maxHeartbeats 8000000 in
set_option maxRecDepth 20000 in
theorem done_app_new {B g r bs bd bn bb m cm : Nat} {fs : List FP} {st lf : Int} {M : Option Addr} {name : ByteArray} {l : List UInt8} (w : World) (h : DK B w g r fs st false lf) (hB : B ≤ w.heap.size) (hin : AppIn w g bs bd bn bb m cm M name l) (hs : name.size ≤ 140737488351232) (hx : nameDS name = true) (hm : m ≤ 100000000) (hst0 : 0 ≤ st) (hst1 : st ≤ 1000000)
    (hfind : fs.find? (fun f => decide (f.name = name)) = none) (hfit : m ≤ 1048576) :
    Calls Try.prog 38 #[.pointer (some ⟨g, 0, none⟩), .agg (appStep bs bd bn bb)] w fun e w' => e = .returned (.int .i64 0) ∧ ∃ p' A' c', DK B w' g r (fs ++ [⟨name, p', A', m, c', l, 0⟩]) (st + 1) false lf ∧ Below B w w' := by
  have hb1 : Below w.heap.size w (w.alloc (.cells (appStep bs bd bn bb) 81)) := (Below.refl _ w).alloc (Nat.le_refl _) _
  have hk1 := Blk.new w 81 (appStep bs bd bn bb)
  have hin1 := hin.below hb1
  have h1 := h.below hb1
  have HB : Hid (badL [name] = false) := by show _ = _; unfold badL; simp [hx]
  have hpe := fun w => run_eql_disk w ⟨g, 0, none⟩
  have hme := fun w => run_eql_files w r
  have hne := fun x y w => run_neq_ref (.func 40) x y w
  have hwst : IntKind.i64.wrap (st + 1) = st + 1 := IntWalk.i64_in _ (by omega)
  have HF := hide hfind
  clear hfind
  clear h hin hx
  go_enter Try.func38, Try.ntmps38
  go_upto_region 1 with (fail)
  generalize w.alloc (.cells (appStep bs bd bn bb) 81) = w1 at *
  have c0 : w1.cell? ⟨g, 0, none⟩ = some (.map (some r)) := h1.1.cell 0
  have k0 : w1.cell? ⟨w.heap.size, 0, none⟩ = some (.slice (some ⟨bs, 0, none⟩) 1 1) := hk1.cell 0
  have HC := hide (contains_any (some ⟨bs, 0, none⟩) 1 1 [name] w1 (hin1.names.texts rfl) (by decide) (fun s hs' => by rw [List.mem_singleton.1 hs']; exact hs))
  rw [HB.out] at HC
  go_upto_region 5 with (first
    | (go_at_call 52; go_must (refine HC.out.mono ?_; rintro e w2 ⟨rfl, hb2⟩))
    | fail)
  have h2 := h1.below hb2
  have hk2 := hk1.below hb2 hk1.lt
  have hin2 := hin1.below hb2
  have hbw2 : Below B w w2 := (hb1.mono hB).trans (hb2.mono (Nat.le_trans hB hb1.size))
  have hz2 : w.heap.size < w2.heap.size := hk2.lt
  clear h1 hk1 hin1 hb1 hb2 c0 k0 HC
  have c0 : w2.cell? ⟨g, 0, none⟩ = some (.map (some r)) := h2.1.cell 0
  have k0 : w2.cell? ⟨w.heap.size, 0, none⟩ = some (.slice (some ⟨bs, 0, none⟩) 1 1) := hk2.cell 0
  have n0 : w2.cell? ⟨bs, 0, none⟩ = some (.string name) := hin2.names.cell 0
  have hlk : ∀ n, (Instr.lookup 68 (.map (some r)) (.string name) true).run Try.prog (w2.drewN n) = .ok (.tuple #[.pointer none, .bool false]) (w2.drewN n) := fun n => by
    have := look_file (h2.drewN n).2.2.2.1 name
    rw [fkv_find, HF.out] at this
    exact this
  go_quiet (fail)
  have h3 := h2.drewN nq
  have hk3 := hk2.drewN nq
  have hin3 : AppIn (w2.drewN nq) g bs bd bn bb m cm M name l := ⟨hin2.names, hin2.disk, hin2.name, hin2.bytes, hin2.reads⟩
  have hbw3 : Below B w (w2.drewN nq) := below_drewN hbw2 _
  have hz3 : w.heap.size < (w2.drewN nq).heap.size := hz2
  clear h2 hk2 hin2 hbw2 hz2 c0 k0 n0 hlk
  generalize w2.drewN nq = w3 at *
  have k1 : w3.cell? ⟨w.heap.size, 1, none⟩ = some (.bool false) := hk3.cell 1
  go_upto_region 10 with (fail)
  have hp4 : Blk (w3.alloc (.cells #[.slice none 0 0, .int .i64 0] 67)) w3.heap.size 67 (fcells none 0 0 0) := Blk.new w3 _ _
  have hb34 : Below w3.heap.size w3 (w3.alloc (.cells #[.slice none 0 0, .int .i64 0] 67)) := (Below.refl _ w3).alloc (Nat.le_refl _) _
  have h4 := h3.below hb34
  have hk4 := hk3.below hb34 hk3.lt
  have hin4 := hin3.below hb34
  have hz3' : B ≤ w3.heap.size := Nat.le_trans hB hbw3.size
  have hbw4 := hbw3.trans (hb34.mono hz3')
  have hap : Hid (∀ x ∈ fs, x.p ≠ w3.heap.size) := fun x hx' => Nat.ne_of_lt (h3.2.2.2.2.1 x hx').1.lt
  generalize hq : w3.heap.size = p' at *
  generalize w3.alloc (.cells #[.slice none 0 0, .int .i64 0] 67) = w4 at *
  clear h3 hk3 hin3 hbw3 hz3 k1 hb34 hq
  have k2 : w4.cell? ⟨w.heap.size, 2, none⟩ = some (.func (.func 40) #[] #[.pointer (some ⟨bb, 0, none⟩)]) := hk4.cell 2
  have H1 := hide (append1_any w4 hp4 hin4.bytes (by decide) hm)
  rw [if_neg (show ¬ 1048576 < 0 + m by omega)] at H1
  go_wp2_with (first
    | (go_at_call 40
       go_must (
       refine H1.out.mono ?_
       rintro e w5 ⟨rfl, m5, hw5⟩
       have h5 : DK B w5 g r fs st false lf := by rw [hw5]; exact h4.drewN m5
       have hk5 : Blk w5 w.heap.size 81 (appStep bs bd bn bb) := by rw [hw5]; exact hk4.drewN m5
       have hp5 : Blk w5 p' 67 (fcells none 0 0 0) := by rw [hw5]; exact hp4.drewN m5
       have hin5 : AppIn w5 g bs bd bn bb m cm M name l := by rw [hw5]; exact ⟨hin4.names, hin4.disk, hin4.name, hin4.bytes, hin4.reads⟩
       have hbw5 : Below B w w5 := by rw [hw5]; exact below_drewN hbw4 _
       clear hw5 h4 hk4 hp4 hin4 hbw4 k2 H1
       have g1 : w5.cell? ⟨g, 1, none⟩ = some (.int .i64 st) := h5.1.cell 1
       have g2 : w5.cell? ⟨g, 2, none⟩ = some (.bool false) := h5.1.cell 2
       have f1 := h5.1.frozen 1
       have k3 : (w5.setCell ⟨g, 1, none⟩ (.int .i64 (st + 1))).cell? ⟨w.heap.size, 3, none⟩ = some (.func (.func 41) #[] #[.pointer (some ⟨bb, 0, none⟩), .pointer (some ⟨bd, 0, none⟩), .pointer (some ⟨bn, 0, none⟩)]) := (hk5.far (p := ⟨g, 1, none⟩) (hk5.ne_ h5.1 (by decide)) _).cell 3))
    | (go_at_call 41
       go_must (
       have h6 : DK B (w5.setCell ⟨g, 1, none⟩ (.int .i64 (st + 1))) g r fs (st + 1) false lf := h5.steps
       have hp6 : Blk (w5.setCell ⟨g, 1, none⟩ (.int .i64 (st + 1))) p' 67 (fcells none 0 0 0) := hp5.far (p := ⟨g, 1, none⟩) (hp5.ne_ h5.1 (by decide)) _
       have hin6 : AppIn (w5.setCell ⟨g, 1, none⟩ (.int .i64 (st + 1))) g bs bd bn bb m cm M name l := hin5.far h5.1 _
       have hb6 : Below B w (w5.setCell ⟨g, 1, none⟩ (.int .i64 (st + 1))) := hbw5.setCell (p := ⟨g, 1, none⟩) h5.2.1 _
       generalize w5.setCell ⟨g, 1, none⟩ (.int .i64 (st + 1)) = w6 at *
       have hrow : FRow B w6 ⟨name, p', none, 0, 0, [], 0⟩ := ⟨hp6, hz3', zown_nil _ _ _, Nat.le_refl _⟩
       refine (append2_any (B := B) (b := []) (kvs := fs.map fkv) (lf := lf) (st := st + 1) (en := false) w6 hp6 hrow.2.2.1 hin6.bytes hin6.reads hin6.disk hin6.name h6.1 h6.2.2.2.1 (Nat.le_trans hB hb6.size) hz3' h6.2.2.1 (by omega)).mono ?_
       rintro e w7 ⟨rfl, A7, c7, hp7, ho7, hm7, hb7, hv7, hk7⟩
       rw [List.nil_append] at ho7
       rw [Nat.zero_add] at hp7 ho7 hv7
       have hm7' : Ms w7 r (fs.map fkv ++ [fkv ⟨name, p', A7, m, c7, l, 0⟩]) := by
         rw [put_none _ (by rw [fkv_find, HF.out]; rfl)] at hm7
         exact hm7
       have h7 : DK B w7 g r (fs ++ [⟨name, p', A7, m, c7, l, 0⟩]) (st + 1) false lf := h6.appended_new hrow (fun x hx' => ⟨fun e => hap.out x hx' e.symm, fun k hk => by cases hk⟩) rfl ⟨hp7, hz3', ho7, Nat.zero_le _⟩ hm7' hv7 hk7
       have hbw7 := hb6.trans hb7))
    | fail)
  go_ret
  exact ⟨rfl, p', A7, c7, h7, hbw7⟩

set_option maxHeartbeats 8000000 in
set_option maxRecDepth 20000 in
theorem done_app_long {B g r bs bd bn bb m cm : Nat} {fs : List FP} {st lf : Int} {M : Option Addr} {name : ByteArray} {l : List UInt8} (w : World) (h : DK B w g r fs st false lf) (hB : B ≤ w.heap.size) (hin : AppIn w g bs bd bn bb m cm M name l) (hs : name.size ≤ 140737488351232) (hx : nameDS name = true) (hm : m ≤ 100000000) (hst0 : 0 ≤ st) (hst1 : st ≤ 1000000)
    (hfind : fs.find? (fun f => decide (f.name = name)) = none) (hfit : ¬ m ≤ 1048576) :
    Calls Try.prog 38 #[.pointer (some ⟨g, 0, none⟩), .agg (appStep bs bd bn bb)] w fun e w' => e = .returned (.int .i64 3) ∧ DK B w' g r fs st false lf ∧ Below B w w' := by
  have hb1 : Below w.heap.size w (w.alloc (.cells (appStep bs bd bn bb) 81)) := (Below.refl _ w).alloc (Nat.le_refl _) _
  have hk1 := Blk.new w 81 (appStep bs bd bn bb)
  have hin1 := hin.below hb1
  have h1 := h.below hb1
  have HB : Hid (badL [name] = false) := by show _ = _; unfold badL; simp [hx]
  have hpe := fun w => run_eql_disk w ⟨g, 0, none⟩
  have hme := fun w => run_eql_files w r
  have hne := fun x y w => run_neq_ref (.func 40) x y w
  have hwst : IntKind.i64.wrap (st + 1) = st + 1 := IntWalk.i64_in _ (by omega)
  have HF := hide hfind
  clear hfind
  clear h hin hx
  go_enter Try.func38, Try.ntmps38
  go_upto_region 1 with (fail)
  generalize w.alloc (.cells (appStep bs bd bn bb) 81) = w1 at *
  have c0 : w1.cell? ⟨g, 0, none⟩ = some (.map (some r)) := h1.1.cell 0
  have k0 : w1.cell? ⟨w.heap.size, 0, none⟩ = some (.slice (some ⟨bs, 0, none⟩) 1 1) := hk1.cell 0
  have HC := hide (contains_any (some ⟨bs, 0, none⟩) 1 1 [name] w1 (hin1.names.texts rfl) (by decide) (fun s hs' => by rw [List.mem_singleton.1 hs']; exact hs))
  rw [HB.out] at HC
  go_upto_region 5 with (first
    | (go_at_call 52; go_must (refine HC.out.mono ?_; rintro e w2 ⟨rfl, hb2⟩))
    | fail)
  have h2 := h1.below hb2
  have hk2 := hk1.below hb2 hk1.lt
  have hin2 := hin1.below hb2
  have hbw2 : Below B w w2 := (hb1.mono hB).trans (hb2.mono (Nat.le_trans hB hb1.size))
  have hz2 : w.heap.size < w2.heap.size := hk2.lt
  clear h1 hk1 hin1 hb1 hb2 c0 k0 HC
  have c0 : w2.cell? ⟨g, 0, none⟩ = some (.map (some r)) := h2.1.cell 0
  have k0 : w2.cell? ⟨w.heap.size, 0, none⟩ = some (.slice (some ⟨bs, 0, none⟩) 1 1) := hk2.cell 0
  have n0 : w2.cell? ⟨bs, 0, none⟩ = some (.string name) := hin2.names.cell 0
  have hlk : ∀ n, (Instr.lookup 68 (.map (some r)) (.string name) true).run Try.prog (w2.drewN n) = .ok (.tuple #[.pointer none, .bool false]) (w2.drewN n) := fun n => by
    have := look_file (h2.drewN n).2.2.2.1 name
    rw [fkv_find, HF.out] at this
    exact this
  go_quiet (fail)
  have h3 := h2.drewN nq
  have hk3 := hk2.drewN nq
  have hin3 : AppIn (w2.drewN nq) g bs bd bn bb m cm M name l := ⟨hin2.names, hin2.disk, hin2.name, hin2.bytes, hin2.reads⟩
  have hbw3 : Below B w (w2.drewN nq) := below_drewN hbw2 _
  have hz3 : w.heap.size < (w2.drewN nq).heap.size := hz2
  clear h2 hk2 hin2 hbw2 hz2 c0 k0 n0 hlk
  generalize w2.drewN nq = w3 at *
  have k1 : w3.cell? ⟨w.heap.size, 1, none⟩ = some (.bool false) := hk3.cell 1
  go_upto_region 10 with (fail)
  have hp4 : Blk (w3.alloc (.cells #[.slice none 0 0, .int .i64 0] 67)) w3.heap.size 67 (fcells none 0 0 0) := Blk.new w3 _ _
  have hb34 : Below w3.heap.size w3 (w3.alloc (.cells #[.slice none 0 0, .int .i64 0] 67)) := (Below.refl _ w3).alloc (Nat.le_refl _) _
  have h4 := h3.below hb34
  have hk4 := hk3.below hb34 hk3.lt
  have hin4 := hin3.below hb34
  have hz3' : B ≤ w3.heap.size := Nat.le_trans hB hbw3.size
  have hbw4 := hbw3.trans (hb34.mono hz3')
  have hap : Hid (∀ x ∈ fs, x.p ≠ w3.heap.size) := fun x hx' => Nat.ne_of_lt (h3.2.2.2.2.1 x hx').1.lt
  generalize hq : w3.heap.size = p' at *
  generalize w3.alloc (.cells #[.slice none 0 0, .int .i64 0] 67) = w4 at *
  clear h3 hk3 hin3 hbw3 hz3 k1 hb34 hq
  have k2 : w4.cell? ⟨w.heap.size, 2, none⟩ = some (.func (.func 40) #[] #[.pointer (some ⟨bb, 0, none⟩)]) := hk4.cell 2
  have H1 := hide (append1_any w4 hp4 hin4.bytes (by decide) hm)
  rw [if_pos (show 1048576 < 0 + m by omega)] at H1
  go_wp2_with (first
    | (go_at_call 40
       go_must (
       refine H1.out.mono ?_
       rintro e w5 ⟨rfl, m5, hw5⟩))
    | fail)
  go_ret
  exact ⟨rfl, h4.drewN m5, below_drewN hbw4 _⟩
end Go.Proofs.Ytaaaljpnhfmbpaa
