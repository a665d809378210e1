/- The walks of the law's do, small (package taborlaw02); the document's Do at a step of any kind. Conditions: those of each theorem. (Printed by wip/gen_dkdo.py.) -/
import Derived.Test.YtaaaljpnhfmbpaaDkRb0
import Derived.Test.YtaaaljpnhfmbpaaDkRb1
import Derived.Test.YtaaaljpnhfmbpaaDkRb2
import Derived.Test.YtaaaljpnhfmbpaaDkRb3
import Derived.Test.YtaaaljpnhfmbpaaDkRb4
namespace Go.Proofs.Ytaaaljpnhfmbpaa
open Go.RowKit
set_option linter.unusedVariables false

theorem to4 {wh : Nat} (h : wh ≤ 4) : wh = 0 ∨ wh = 1 ∨ wh = 2 ∨ wh = 3 ∨ wh = 4 := by omega
theorem rdo_any (wh : Nat) (hwh : wh ≤ 4) {A M : Option Addr} {n c m mc : Nat} {d : DS} {z : Int} {name tn : ByteArray} {bs : List UInt8} (w : World) (hr : Reads w w.heap.size 3 A n (dvs d.l)) (hn : n ≤ 40000) (hfl : ∀ x ∈ d.l, x.2.1.length ≤ 1048576 ∧ x.2.2 ≤ 1048576) (hs1 : name.size ≤ 140737488351232) (hs2 : tn.size ≤ 140737488351232) (hM : Reads w w.heap.size 1 M m (bvs bs)) (hm : m ≤ 100000000) (hst0 : 0 ≤ d.st) (hst1 : d.st ≤ 1000000000) (hlf0 : 0 ≤ d.lf) (hlf1 : d.lf ≤ 9223372036854775807) :
    Calls Try.prog 26 #[.agg (rdiskV A n c d.st (leftR d)), .agg (rstepV wh name tn M m mc z)] w fun e w' => (∃ A' n' c', e = .returned (.tuple #[.agg (rdiskV A' n' c' (stepD d name (cmdOf wh tn bs z)).st (leftR (stepD d name (cmdOf wh tn bs z)))), .int .i64 (errP d name (cmdOf wh tn bs z))]) ∧ ((A' = A ∧ n' = n ∧ c' = c ∧ (stepD d name (cmdOf wh tn bs z)).l = d.l) ∨ w'.ownsRow w.heap.size 27 3 (.slice A' n' c') n' (dvs (stepD d name (cmdOf wh tn bs z)).l))) ∧ Below w.heap.size w w' := by
  rcases to4 hwh with rfl | rfl | rfl | rfl | rfl
  · exact rdo0 w hr hn hfl hs1 hs2 hM hm hst0 hst1 hlf0 hlf1
  · exact rdo1 w hr hn hfl hs1 hs2 hM hm hst0 hst1 hlf0 hlf1
  · exact rdo2 w hr hn hfl hs1 hs2 hM hm hst0 hst1 hlf0 hlf1
  · exact rdo3 w hr hn hfl hs1 hs2 hM hm hst0 hst1 hlf0 hlf1
  · exact rdo4 w hr hn hfl hs1 hs2 hM hm hst0 hst1 hlf0 hlf1
theorem DIn.below {B : Nat} {w w' : World} {d : DS} {name : ByteArray} (h : DIn B w d name) (hz : w.heap.size ≤ w'.heap.size) : DIn B w' d name := ⟨Nat.le_trans h.base hz, h.size, h.st0, h.st1, h.lf0, h.lf1⟩
theorem small_any (wh : Int) (name tn : ByteArray) (M : Option Addr) (m mc : Nat) (z : Int) (w : World) :
    Calls Try.prog 25 #[.agg (rstepV wh name tn M m mc z)] w fun e w' => e = .returned (.bool (decide (name.size ≤ 200) && decide (tn.size ≤ 200) && decide (m ≤ 1000))) ∧ Below w.heap.size w w' := by
  have hk := Blk.new w 48 (rstepV wh name tn M m mc z)
  have hb : Below w.heap.size w (w.alloc (.cells (rstepV wh name tn M m mc z) 48)) := (Below.refl _ w).alloc (Nat.le_refl _) _
  have e1 : (decide ((name.size : Int) ≤ 200)) = decide (name.size ≤ 200) := by by_cases h : name.size ≤ 200 <;> simp [h] <;> omega
  have e2 : (decide ((tn.size : Int) ≤ 200)) = decide (tn.size ≤ 200) := by by_cases h : tn.size ≤ 200 <;> simp [h] <;> omega
  have e3 : (decide ((m : Int) ≤ 1000)) = decide (m ≤ 1000) := by by_cases h : m ≤ 1000 <;> simp [h] <;> omega
  cases d1 : decide (name.size ≤ 200) with
  | false =>
    rw [d1] at e1
    clear e2 e3
    go_enter Try.func25, Try.ntmps25
    go_wp2_with fail
    go_ret
    exact ⟨rfl, hb⟩
  | true =>
    rw [d1] at e1
    cases d2 : decide (tn.size ≤ 200) with
    | false =>
      rw [d2] at e2
      clear e3
      go_enter Try.func25, Try.ntmps25
      go_wp2_with fail
      go_ret
      exact ⟨rfl, hb⟩
    | true =>
      rw [d2] at e2
      cases d3 : decide (m ≤ 1000) with
      | false =>
        rw [d3] at e3
        go_enter Try.func25, Try.ntmps25
        go_wp2_with fail
        go_ret
        exact ⟨rfl, hb⟩
      | true =>
        rw [d3] at e3
        go_enter Try.func25, Try.ntmps25
        go_wp2_with fail
        go_ret
        exact ⟨rfl, hb⟩
set_option maxHeartbeats 2000000 in
theorem ldo0 {B g r : Nat} {M : Option Addr} {m mc : Nat} {d : DS} {z : Int} {name tn : ByteArray} {bs : List UInt8} (w : World) (h : DKd B w g r d) (hi : DIn B w d name) (hs2 : tn.size ≤ 140737488351232) (hM : Reads w w.heap.size 1 M m (bvs bs)) (hm : m ≤ 100000000) (hfl : ∀ x ∈ d.l, x.2.1.length ≤ 1048576) :
    Calls Try.prog 28 #[.pointer (some ⟨g, 0, none⟩), .agg (rstepV 0 name tn M m mc z)] w fun e w' => e = .returned (.int .i64 (errP d name (cmdOf 0 tn bs z))) ∧ DKd B w' g r (stepD d name (cmdOf 0 tn bs z)) ∧ BK B w w' := by
  have hk := Blk.new w 48 (rstepV 0 name tn M m mc z)
  have hb : Below w.heap.size w (w.alloc (.cells (rstepV 0 name tn M m mc z) 48)) := (Below.refl _ w).alloc (Nat.le_refl _) _
  have HO := hide (append_op (bs := bs) (cm := mc) (w.alloc (.cells (rstepV 0 name tn M m mc z) 48)) (h.below hb) (hi.below hb.size) ((hM.below hb).more hb.size) hm hfl)
  have hbB := BK.of hb hi.base
  clear h hi hM
  go_enter Try.func28, Try.ntmps28
  go_wp2_with (first
    | (go_at_call 23; go_must (refine HO.out.mono ?_; rintro e w2 ⟨rfl, hd2, hb2⟩))
    | (go_at_call 16; refine (num_any _ _).mono ?_; rintro e w3 ⟨rfl, rfl⟩)
    | fail)
  go_ret
  exact ⟨rfl, hd2, hbB.trans hb2⟩
set_option maxHeartbeats 2000000 in
theorem ldo1 {B g r : Nat} {M : Option Addr} {m mc : Nat} {d : DS} {z : Int} {name tn : ByteArray} {bs : List UInt8} (w : World) (h : DKd B w g r d) (hi : DIn B w d name) (hs2 : tn.size ≤ 140737488351232) (hM : Reads w w.heap.size 1 M m (bvs bs)) (hm : m ≤ 100000000) (hfl : ∀ x ∈ d.l, x.2.1.length ≤ 1048576) :
    Calls Try.prog 28 #[.pointer (some ⟨g, 0, none⟩), .agg (rstepV 1 name tn M m mc z)] w fun e w' => e = .returned (.int .i64 (errP d name (cmdOf 1 tn bs z))) ∧ DKd B w' g r (stepD d name (cmdOf 1 tn bs z)) ∧ BK B w w' := by
  have hk := Blk.new w 48 (rstepV 1 name tn M m mc z)
  have hb : Below w.heap.size w (w.alloc (.cells (rstepV 1 name tn M m mc z) 48)) := (Below.refl _ w).alloc (Nat.le_refl _) _
  have HO := hide (cut_op (z := z) (w.alloc (.cells (rstepV 1 name tn M m mc z) 48)) (h.below hb) (hi.below hb.size) hfl)
  have hbB := BK.of hb hi.base
  clear h hi hM
  go_enter Try.func28, Try.ntmps28
  go_wp2_with (first
    | (go_at_call 32; go_must (refine HO.out.mono ?_; rintro e w2 ⟨rfl, hd2, hb2⟩))
    | (go_at_call 16; refine (num_any _ _).mono ?_; rintro e w3 ⟨rfl, rfl⟩)
    | fail)
  go_ret
  exact ⟨rfl, hd2, hbB.trans hb2⟩
set_option maxHeartbeats 2000000 in
theorem ldo2 {B g r : Nat} {M : Option Addr} {m mc : Nat} {d : DS} {z : Int} {name tn : ByteArray} {bs : List UInt8} (w : World) (h : DKd B w g r d) (hi : DIn B w d name) (hs2 : tn.size ≤ 140737488351232) (hM : Reads w w.heap.size 1 M m (bvs bs)) (hm : m ≤ 100000000) (hfl : ∀ x ∈ d.l, x.2.1.length ≤ 1048576) :
    Calls Try.prog 28 #[.pointer (some ⟨g, 0, none⟩), .agg (rstepV 2 name tn M m mc z)] w fun e w' => e = .returned (.int .i64 (errP d name (cmdOf 2 tn bs z))) ∧ DKd B w' g r (stepD d name (cmdOf 2 tn bs z)) ∧ BK B w w' := by
  have hk := Blk.new w 48 (rstepV 2 name tn M m mc z)
  have hb : Below w.heap.size w (w.alloc (.cells (rstepV 2 name tn M m mc z) 48)) := (Below.refl _ w).alloc (Nat.le_refl _) _
  have HO := hide (sync_op (w.alloc (.cells (rstepV 2 name tn M m mc z) 48)) (h.below hb) (hi.below hb.size))
  have hbB := BK.of hb hi.base
  clear h hi hM
  go_enter Try.func28, Try.ntmps28
  go_wp2_with (first
    | (go_at_call 22; go_must (refine HO.out.mono ?_; rintro e w2 ⟨rfl, hd2, hb2⟩))
    | (go_at_call 16; refine (num_any _ _).mono ?_; rintro e w3 ⟨rfl, rfl⟩)
    | fail)
  go_ret
  exact ⟨rfl, hd2, hbB.trans hb2⟩
set_option maxHeartbeats 2000000 in
theorem ldo3 {B g r : Nat} {M : Option Addr} {m mc : Nat} {d : DS} {z : Int} {name tn : ByteArray} {bs : List UInt8} (w : World) (h : DKd B w g r d) (hi : DIn B w d name) (hs2 : tn.size ≤ 140737488351232) (hM : Reads w w.heap.size 1 M m (bvs bs)) (hm : m ≤ 100000000) (hfl : ∀ x ∈ d.l, x.2.1.length ≤ 1048576) :
    Calls Try.prog 28 #[.pointer (some ⟨g, 0, none⟩), .agg (rstepV 3 name tn M m mc z)] w fun e w' => e = .returned (.int .i64 (errP d name (cmdOf 3 tn bs z))) ∧ DKd B w' g r (stepD d name (cmdOf 3 tn bs z)) ∧ BK B w w' := by
  have hk := Blk.new w 48 (rstepV 3 name tn M m mc z)
  have hb : Below w.heap.size w (w.alloc (.cells (rstepV 3 name tn M m mc z) 48)) := (Below.refl _ w).alloc (Nat.le_refl _) _
  have HO := hide (rename_op (tn := tn) (w.alloc (.cells (rstepV 3 name tn M m mc z) 48)) (h.below hb) (hi.below hb.size) hs2)
  have hbB := BK.of hb hi.base
  clear h hi hM
  go_enter Try.func28, Try.ntmps28
  go_wp2_with (first
    | (go_at_call 33; go_must (refine HO.out.mono ?_; rintro e w2 ⟨rfl, hd2, hb2⟩))
    | (go_at_call 16; refine (num_any _ _).mono ?_; rintro e w3 ⟨rfl, rfl⟩)
    | fail)
  go_ret
  exact ⟨rfl, hd2, hbB.trans hb2⟩
set_option maxHeartbeats 2000000 in
theorem ldo4 {B g r : Nat} {M : Option Addr} {m mc : Nat} {d : DS} {z : Int} {name tn : ByteArray} {bs : List UInt8} (w : World) (h : DKd B w g r d) (hi : DIn B w d name) (hs2 : tn.size ≤ 140737488351232) (hM : Reads w w.heap.size 1 M m (bvs bs)) (hm : m ≤ 100000000) (hfl : ∀ x ∈ d.l, x.2.1.length ≤ 1048576) :
    Calls Try.prog 28 #[.pointer (some ⟨g, 0, none⟩), .agg (rstepV 4 name tn M m mc z)] w fun e w' => e = .returned (.int .i64 (errP d name (cmdOf 4 tn bs z))) ∧ DKd B w' g r (stepD d name (cmdOf 4 tn bs z)) ∧ BK B w w' := by
  have hk := Blk.new w 48 (rstepV 4 name tn M m mc z)
  have hb : Below w.heap.size w (w.alloc (.cells (rstepV 4 name tn M m mc z) 48)) := (Below.refl _ w).alloc (Nat.le_refl _) _
  have HO := hide (remove_op (w.alloc (.cells (rstepV 4 name tn M m mc z) 48)) (h.below hb) (hi.below hb.size))
  have hbB := BK.of hb hi.base
  clear h hi hM
  go_enter Try.func28, Try.ntmps28
  go_wp2_with (first
    | (go_at_call 34; go_must (refine HO.out.mono ?_; rintro e w2 ⟨rfl, hd2, hb2⟩))
    | (go_at_call 16; refine (num_any _ _).mono ?_; rintro e w3 ⟨rfl, rfl⟩)
    | fail)
  go_ret
  exact ⟨rfl, hd2, hbB.trans hb2⟩
theorem ldo_any (wh : Nat) (hwh : wh ≤ 4) {B g r : Nat} {M : Option Addr} {m mc : Nat} {d : DS} {z : Int} {name tn : ByteArray} {bs : List UInt8} (w : World) (h : DKd B w g r d) (hi : DIn B w d name) (hs2 : tn.size ≤ 140737488351232) (hM : Reads w w.heap.size 1 M m (bvs bs)) (hm : m ≤ 100000000) (hfl : ∀ x ∈ d.l, x.2.1.length ≤ 1048576) :
    Calls Try.prog 28 #[.pointer (some ⟨g, 0, none⟩), .agg (rstepV wh name tn M m mc z)] w fun e w' => e = .returned (.int .i64 (errP d name (cmdOf wh tn bs z))) ∧ DKd B w' g r (stepD d name (cmdOf wh tn bs z)) ∧ BK B w w' := by
  rcases to4 hwh with rfl | rfl | rfl | rfl | rfl
  · exact ldo0 w h hi hs2 hM hm hfl
  · exact ldo1 w h hi hs2 hM hm hfl
  · exact ldo2 w h hi hs2 hM hm hfl
  · exact ldo3 w h hi hs2 hM hm hfl
  · exact ldo4 w h hi hs2 hM hm hfl
end Go.Proofs.Ytaaaljpnhfmbpaa
