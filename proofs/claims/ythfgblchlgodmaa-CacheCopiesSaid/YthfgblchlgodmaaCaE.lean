/- A cache in memory; the walks of New, none, size, put, Get, Named, Len, Unload, Load (package cache). Conditions: those of each theorem. -/
import Derived.Test.YthfgblchlgodmaaRows
import Derived.Test.YthfgblchlgodmaaLib
import Derived.Deep.QuietTactic
import Derived.BigQuiet
import Derived.Deep.RegionWith
import Derived.Deep.DeepMust
import Derived.Test.YthfgblchlgodmaaMapS
import Derived.StillTailTactics
import Derived.Deep.DeepCutAuto
namespace Go.Proofs.Ythfgblchlgodmaa
open Go.RowKit
set_option linter.unusedVariables false

theorem zero_str (w : World) : (zeroValue 9).run Try.prog w = .ok (.string ⟨#[]⟩) w := by kernel_rfl
/-- a cache: its scripts in the map r1, the named ones in the map r2 -/
def CQ (w : World) (g r1 r2 : Nat) (ss ns : List KV) : Prop := Blk w g 75 #[.map (some r1), .map (some r2)] ∧ Ms w r1 ss ∧ Ms w r2 ns ∧ r1 ≠ r2
theorem CQ.below {w w' : World} {g r1 r2 : Nat} {ss ns : List KV} (h : CQ w g r1 r2 ss ns) (hb : Below w.heap.size w w') : CQ w' g r1 r2 ss ns :=
  ⟨h.1.below hb h.1.lt, h.2.1.below hb h.2.1.lt, h.2.2.1.below hb h.2.2.1.lt, h.2.2.2⟩
theorem CQ.drewN {w : World} {g r1 r2 : Nat} {ss ns : List KV} (h : CQ w g r1 r2 ss ns) (n : Nat) : CQ (w.drewN n) g r1 r2 ss ns := h

theorem run_eql_ptr_some (w : World) (p : Addr) : (binOp .eql 26 (.pointer (some p)) (.pointer none)).run Try.prog w = .ok (.bool false) w := by kernel_rfl
theorem run_eql_map_some (w : World) (r : Nat) : (binOp .eql 71 (.map (some r)) (.map none)).run Try.prog w = .ok (.bool false) w := by kernel_rfl

set_option maxHeartbeats 1000000 in
set_option maxRecDepth 20000 in
theorem cnone_any {g r1 r2 : Nat} {ss ns : List KV} (w : World) (h : CQ w g r1 r2 ss ns) :
    Calls Try.prog 35 #[.pointer (some ⟨g, 0, none⟩)] w fun e w' => e = .returned (.bool false) ∧ w = w' := by
  have c0 : w.cell? ⟨g, 0, none⟩ = some (.map (some r1)) := h.1.cell 0
  have he := run_eql_map_some w r1
  go_enter Try.func35, Try.ntmps35
  go_wp2_with fail
  go_ret
  exact ⟨rfl, rfl⟩
theorem cnone_nil (w : World) :
    Calls Try.prog 35 #[.pointer none] w fun e w' => e = .returned (.bool true) ∧ w = w' := by
  go_enter Try.func35, Try.ntmps35
  go_wp2_with fail
  go_ret
  exact ⟨rfl, rfl⟩
theorem len_map {w : World} {r : Nat} {kvs : List KV} (h : Ms w r kvs) (ty : TypeId) : (Builtin.len_ #[71] ty #[.map (some r)]).run Try.prog w = .ok (.int .i64 kvs.length) w := Ms.len Try.underlying71 h ty
theorem look_map {w : World} {r : Nat} {kvs : List KV} (h : Ms w r kvs) (k : ByteArray) : (Instr.lookup 71 (.map (some r)) (.string k) true).run Try.prog w = .ok (.tuple #[(lookS kvs k).getD (.string ⟨#[]⟩), .bool (lookS kvs k).isSome]) w := (Ms.lookup Try.underlying71 Try.underlying9 h k zero_str).1

set_option maxHeartbeats 1000000 in
set_option maxRecDepth 20000 in
theorem csize_any {g r1 r2 : Nat} {ss ns : List KV} (w : World) (h : CQ w g r1 r2 ss ns) (h1 : ss.length ≤ 100000) (h2 : ns.length ≤ 100000) :
    Calls Try.prog 46 #[.pointer (some ⟨g, 0, none⟩)] w fun e w' => e = .returned (.int .i64 (ss.length + ns.length : Nat)) ∧ ∃ m, w' = w.drewN m := by
  have c0 : w.cell? ⟨g, 0, none⟩ = some (.map (some r1)) := h.1.cell 0
  have c1 : w.cell? ⟨g, 1, none⟩ = some (.map (some r2)) := h.1.cell 1
  have l1 : ∀ n ty, (Builtin.len_ #[71] ty #[.map (some r1)]).run Try.prog (w.drewN n) = .ok (.int .i64 ss.length) (w.drewN n) := fun n ty => len_map (h.2.1.drewN n) ty
  have l2 : ∀ n ty, (Builtin.len_ #[71] ty #[.map (some r2)]).run Try.prog (w.drewN n) = .ok (.int .i64 ns.length) (w.drewN n) := fun n ty => len_map (h.2.2.1.drewN n) ty
  have hw : IntKind.i64.wrap ((ss.length : Int) + (ns.length : Int)) = (ss.length : Int) + (ns.length : Int) := IntWalk.i64_in _ (by omega)
  go_enter Try.func46, Try.ntmps46
  go_wp2_with fail
  go_quiet (fail)
  go_wp2_with fail
  go_ret
  exact ⟨rfl, _, rfl⟩

/-- may a script be put? -/
def roomC (n : Nat) (kind : List KV) (key script : ByteArray) : Bool := decide (script.size ≤ 1048576) && ((lookS kind key).isSome || decide (n < 65536))
def putC (n : Nat) (kind : List KV) (key script : ByteArray) : List KV := if roomC n kind key script = true then putS kind key (.string script) else kind
def putE (n : Nat) (kind : List KV) (key script : ByteArray) : Nat := if roomC n kind key script = true then 0 else 3
theorem below_put {w : World} {r B : Nat} {o : Obj} (h : B ≤ r) : Below B w (w.putObj r o) := ⟨rfl, rfl, rfl, by simp [World.putObj], fun k hk => by simp [World.putObj, show r ≠ k by omega]⟩
theorem putE_no {n : Nat} {kind : List KV} {key script : ByteArray} (h : roomC n kind key script = false) : putE n kind key script = 3 ∧ putC n kind key script = kind := by
  unfold putE putC
  rw [h]
  exact ⟨rfl, rfl⟩
theorem putE_yes {n : Nat} {kind : List KV} {key script : ByteArray} (h : roomC n kind key script = true) : putE n kind key script = 0 ∧ putC n kind key script = putS kind key (.string script) := by
  unfold putE putC
  rw [if_pos h, if_pos h]
  exact ⟨rfl, rfl⟩

set_option maxHeartbeats 4000000 in
set_option maxRecDepth 100000 in
/-- put: the map's own change; which of the two it is, is the caller's -/
theorem cput_any {g r1 r2 r : Nat} {ss ns kind : List KV} (key script : ByteArray) (w : World) (h : CQ w g r1 r2 ss ns) (h1 : ss.length ≤ 100000) (h2 : ns.length ≤ 100000) (hr : Ms w r kind) :
    Calls Try.prog 45 #[.pointer (some ⟨g, 0, none⟩), .map (some r), .string key, .string script] w fun e w' => e = .returned (.int .i64 (putE (ss.length + ns.length) kind key script : Nat)) ∧ Ms w' r (putC (ss.length + ns.length) kind key script) ∧ (∃ m, w' = w.drewN m ∨ ∃ o, w' = (w.drewN m).putObj r o) := by
  have hlk := look_map hr key
  have HSZ := hide (csize_any w h h1 h2)
  generalize ss.length + ns.length = N at *
  by_cases hs : script.size ≤ 1048576
  case neg =>
    have hsI : (1048576 : Int) < (script.size : Int) := by omega
    obtain ⟨e1, e2⟩ := putE_no (n := N) (kind := kind) (key := key) (script := script) (by unfold roomC; rw [show decide (script.size ≤ 1048576) = false from by simpa using hs]; rfl)
    rw [e1, e2]
    clear e1 e2
    go_enter Try.func45, Try.ntmps45
    go_wp2_with fail
    go_ret
    exact ⟨rfl, hr, 0, .inl rfl⟩
  case pos =>
    have hsI : ¬ (1048576 : Int) < (script.size : Int) := by omega
    cases hl : lookS kind key with
    | some v =>
      rw [hl] at hlk
      obtain ⟨e1, e2⟩ := putE_yes (n := N) (kind := kind) (key := key) (script := script) (by unfold roomC; rw [hl, show decide (script.size ≤ 1048576) = true from by simpa using hs]; rfl)
      rw [e1, e2]
      clear e1 e2
      obtain ⟨o, hu, hms⟩ := Ms.update (P := Try.prog) Try.underlying71 Try.underlying9 hr key (.string script)
      dsimp only [Option.getD, Option.isSome] at hlk
      have HMS := hide hms
      clear hms hl
      go_enter Try.func45, Try.ntmps45
      go_wp2_with fail
      go_ret
      exact ⟨rfl, HMS.out, 0, .inr ⟨o, rfl⟩⟩
    | none =>
      rw [hl] at hlk
      dsimp only [Option.getD, Option.isSome] at hlk
      by_cases hn : N < 65536
      · have hnI : ¬ (65536 : Int) ≤ (N : Int) := by omega
        obtain ⟨e1, e2⟩ := putE_yes (n := N) (kind := kind) (key := key) (script := script) (by unfold roomC; rw [hl, show decide (script.size ≤ 1048576) = true from by simpa using hs, show decide (N < 65536) = true from by simpa using hn]; rfl)
        rw [e1, e2]
        clear e1 e2 hl
        go_enter Try.func45, Try.ntmps45
        have hd : decide ((65536 : Int) ≤ (N : Int)) = false := by simp; omega
        clear hn hnI hs
        go_wp2_with (first
          | (go_at_call 46
             go_must (
             refine HSZ.out.mono ?_
             rintro e w2 ⟨rfl, m2, hw2⟩
             have hr2 : Ms w2 r kind := by rw [hw2]; exact hr.drewN m2
             obtain ⟨o, hu, hms⟩ := Ms.update (P := Try.prog) Try.underlying71 Try.underlying9 hr2 key (.string script)
             have HMS := hide hms
             have HW2 := hide hw2
             clear hms hw2 hlk))
          | fail)
        go_ret
        exact ⟨rfl, HMS.out, m2, .inr ⟨o, by rw [HW2.out]⟩⟩
      · have hnI : (65536 : Int) ≤ (N : Int) := by omega
        obtain ⟨e1, e2⟩ := putE_no (n := N) (kind := kind) (key := key) (script := script) (by unfold roomC; rw [hl, show decide (N < 65536) = false from by simpa using hn]; simp)
        rw [e1, e2]
        clear e1 e2 hl
        go_enter Try.func45, Try.ntmps45
        go_wp2_with (first
          | (go_at_call 46
             go_must (
             refine HSZ.out.mono ?_
             rintro e w2 ⟨rfl, m2, rfl⟩))
          | fail)
        go_ret
        exact ⟨rfl, hr.drewN m2, m2, .inl rfl⟩
theorem CQ.put1 {w w' : World} {g r1 r2 m : Nat} {ss ss' ns : List KV} (h : CQ w g r1 r2 ss ns) (hm : Ms w' r1 ss') (hw : w' = w.drewN m ∨ ∃ o, w' = (w.drewN m).putObj r1 o) : CQ w' g r1 r2 ss' ns := by
  rcases hw with rfl | ⟨o, rfl⟩
  · exact ⟨h.1, hm, h.2.2.1, h.2.2.2⟩
  · exact ⟨(h.drewN m).1.putObj (h.drewN m).2.1 o, hm, (h.drewN m).2.2.1.far (fun e => h.2.2.2 e.symm) o, h.2.2.2⟩
theorem CQ.put2 {w w' : World} {g r1 r2 m : Nat} {ss ns ns' : List KV} (h : CQ w g r1 r2 ss ns) (hm : Ms w' r2 ns') (hw : w' = w.drewN m ∨ ∃ o, w' = (w.drewN m).putObj r2 o) : CQ w' g r1 r2 ss ns' := by
  rcases hw with rfl | ⟨o, rfl⟩
  · exact ⟨h.1, h.2.1, hm, h.2.2.2⟩
  · exact ⟨(h.drewN m).1.putObj (h.drewN m).2.2.1 o, (h.drewN m).2.1.far h.2.2.2 o, hm, h.2.2.2⟩
theorem below_puts {w w' : World} {r m B : Nat} (hB : B ≤ r) (hw : w' = w.drewN m ∨ ∃ o, w' = (w.drewN m).putObj r o) : Below B w w' := by
  rcases hw with rfl | ⟨o, rfl⟩
  · exact below_drewN (Below.refl _ _) _
  · exact (below_drewN (Below.refl _ _) m).trans (below_put hB)

set_option maxHeartbeats 1000000 in
set_option maxRecDepth 20000 in
theorem cnew_any (w : World) : Calls Try.prog 11 #[] w fun e w' => ∃ g r1 r2, e = .returned (.pointer (some ⟨g, 0, none⟩)) ∧ CQ w' g r1 r2 [] [] ∧ w.heap.size ≤ g ∧ w.heap.size ≤ r1 ∧ w.heap.size ≤ r2 ∧ Below w.heap.size w w' := by
  have m1 := fun w => run_makeMap_plain (P := Try.prog) w 71
  go_enter Try.func11, Try.ntmps11
  go_wp2_with fail
  go_ret
  have h1 := (Ms.made (w.alloc (.map #[] 0))).alloc (.cells #[.map (some w.heap.size), .map (some (w.heap.size + 1))] 75)
  have h2 := Blk.new ((w.alloc (.map #[] 0)).alloc (.map #[] 0)) 75 #[.map (some w.heap.size), .map (some (w.heap.size + 1))]
  rw [World.size_alloc] at h1
  rw [World.size_alloc, World.size_alloc] at h2
  exact ⟨_, w.heap.size, w.heap.size + 1, rfl, ⟨h2, ((Ms.made w).alloc _).alloc _, h1, by omega⟩, by omega, Nat.le_refl _, by omega, (((Below.refl _ w).alloc (Nat.le_refl _) _).alloc (by simp) _).alloc (by simp; omega) _⟩

set_option maxHeartbeats 1000000 in
set_option maxRecDepth 20000 in
theorem cget_any {g r1 r2 : Nat} {ss ns : List KV} (k : ByteArray) (w : World) (h : CQ w g r1 r2 ss ns) :
    Calls Try.prog 13 #[.pointer (some ⟨g, 0, none⟩), .string k] w fun e w' => e = .returned (.tuple #[(lookS ss k).getD (.string ⟨#[]⟩), .bool (lookS ss k).isSome]) ∧ w = w' := by
  have c0 : w.cell? ⟨g, 0, none⟩ = some (.map (some r1)) := h.1.cell 0
  have hlk := look_map h.2.1 k
  go_enter Try.func13, Try.ntmps13
  go_wp2_with (first
    | (go_at_call 35; refine (cnone_any w h).mono ?_; rintro e w2 ⟨rfl, rfl⟩)
    | fail)
  go_ret2
  exact ⟨rfl, rfl⟩
set_option maxHeartbeats 1000000 in
set_option maxRecDepth 20000 in
theorem cnamed_any {g r1 r2 : Nat} {ss ns : List KV} (k : ByteArray) (w : World) (h : CQ w g r1 r2 ss ns) :
    Calls Try.prog 15 #[.pointer (some ⟨g, 0, none⟩), .string k] w fun e w' => e = .returned (.tuple #[(lookS ns k).getD (.string ⟨#[]⟩), .bool (lookS ns k).isSome]) ∧ w = w' := by
  have c1 : w.cell? ⟨g, 1, none⟩ = some (.map (some r2)) := h.1.cell 1
  have hlk := look_map h.2.2.1 k
  go_enter Try.func15, Try.ntmps15
  go_wp2_with (first
    | (go_at_call 35; refine (cnone_any w h).mono ?_; rintro e w2 ⟨rfl, rfl⟩)
    | fail)
  go_ret2
  exact ⟨rfl, rfl⟩
set_option maxHeartbeats 1000000 in
set_option maxRecDepth 20000 in
theorem clen_any {g r1 r2 : Nat} {ss ns : List KV} (w : World) (h : CQ w g r1 r2 ss ns) (h1 : ss.length ≤ 100000) (h2 : ns.length ≤ 100000) :
    Calls Try.prog 28 #[.pointer (some ⟨g, 0, none⟩)] w fun e w' => e = .returned (.int .i64 (ss.length + ns.length : Nat)) ∧ ∃ m, w' = w.drewN m := by
  go_enter Try.func28, Try.ntmps28
  go_wp2_with (first
    | (go_at_call 35; refine (cnone_any w h).mono ?_; rintro e w2 ⟨rfl, rfl⟩)
    | (go_at_call 46; refine (csize_any w h h1 h2).mono ?_; rintro e w2 ⟨rfl, m2, rfl⟩)
    | fail)
  go_ret
  exact ⟨rfl, _, rfl⟩
end Go.Proofs.Ythfgblchlgodmaa
