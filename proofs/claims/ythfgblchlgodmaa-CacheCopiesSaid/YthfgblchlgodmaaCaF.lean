/- The walks of Load, Unload, Put (package cache). Conditions: those of each theorem. -/
import Derived.Test.YthfgblchlgodmaaCaD
import Derived.Test.YthfgblchlgodmaaCaE
import Derived.Test.YthfgblchlgodmaaDigest
import Derived.Test.YthfgblchlgodmaaStep
import Derived.Deep.RegionLaw
namespace Go.Proofs.Ythfgblchlgodmaa
open Go.RowKit
set_option linter.unusedVariables false

def loadC (n : Nat) (ns : List KV) (name script : ByteArray) : List KV := if nameS name = true then putC n ns name script else ns
def loadE (n : Nat) (ns : List KV) (name script : ByteArray) : Nat := if nameS name = true then putE n ns name script else 2
theorem load_no {n : Nat} {ns : List KV} {name script : ByteArray} (h : nameS name = false) : loadC n ns name script = ns ∧ loadE n ns name script = 2 := by
  unfold loadC loadE; rw [h]; exact ⟨rfl, rfl⟩
theorem load_yes {n : Nat} {ns : List KV} {name script : ByteArray} (h : nameS name = true) : loadC n ns name script = putC n ns name script ∧ loadE n ns name script = putE n ns name script := by
  unfold loadC loadE; rw [if_pos h, if_pos h]; exact ⟨rfl, rfl⟩

set_option maxHeartbeats 4000000 in
set_option maxRecDepth 100000 in
theorem cload_any {B g r1 r2 : Nat} {ss ns : List KV} (name script : ByteArray) (w : World) (h : CQ w g r1 r2 ss ns) (h1 : ss.length ≤ 100000) (h2 : ns.length ≤ 100000) (hB : B ≤ r2) (hw : B ≤ w.heap.size) :
    Calls Try.prog 24 #[.pointer (some ⟨g, 0, none⟩), .string name, .string script] w fun e w' => e = .returned (.int .i64 (loadE (ss.length + ns.length) ns name script : Nat)) ∧ CQ w' g r1 r2 ss (loadC (ss.length + ns.length) ns name script) ∧ Below B w w' := by
  have HN := hide (name_any name w)
  cases hx : nameS name with
  | false =>
    obtain ⟨e1, e2⟩ := load_no (n := ss.length + ns.length) (ns := ns) (script := script) hx
    rw [e1, e2]
    rw [hx] at HN
    clear e1 e2 hx
    go_enter Try.func24, Try.ntmps24
    go_wp2_with (first
      | (go_at_call 35; refine (cnone_any w h).mono ?_; rintro e w2 ⟨rfl, rfl⟩)
      | (go_at_call 7; refine HN.out.mono ?_; rintro e w2 ⟨rfl, hb2⟩)
      | fail)
    go_ret
    exact ⟨rfl, h.below hb2, hb2.mono hw⟩
  | true =>
    obtain ⟨e1, e2⟩ := load_yes (n := ss.length + ns.length) (ns := ns) (script := script) hx
    rw [e1, e2]
    rw [hx] at HN
    clear e1 e2 hx
    go_enter Try.func24, Try.ntmps24
    go_upto_region 5 with (first
      | (go_at_call 35; refine (cnone_any w h).mono ?_; rintro e w2 ⟨rfl, rfl⟩)
      | (go_at_call 7; refine HN.out.mono ?_; rintro e w2 ⟨rfl, hb2⟩)
      | fail)
    have hc := h.below hb2
    have c1 : w2.cell? ⟨g, 1, none⟩ = some (.map (some r2)) := hc.1.cell 1
    have c1d : w2.drew.cell? ⟨g, 1, none⟩ = some (.map (some r2)) := hc.1.cell 1
    have hcd : CQ w2.drew g r1 r2 ss ns := hc
    have hbd : Below B w w2.drew := (hb2.mono hw).drew
    go_region_law (go_simp; go_at_call 45; refine (cput_any name script w2.drew hcd h1 h2 hcd.2.2.1).mono ?_; rintro e w3 ⟨rfl, hm3, m3, hw3⟩)
    all_goals
      go_wp2_with fail
      go_ret
      exact ⟨rfl, hcd.put2 hm3 hw3, hbd.trans (below_puts hB hw3)⟩

def unloadC (ns : List KV) (name : ByteArray) : List KV := if nameS name = true then delS ns name else ns
def unloadE (ns : List KV) (name : ByteArray) : Nat := if nameS name = true then (if (lookS ns name).isSome = true then 0 else 5) else 2
theorem del_none {kvs : List KV} {k : ByteArray} (h : lookS kvs k = none) : delS kvs k = kvs := by
  induction kvs with
  | nil => rfl
  | cons p r ih =>
    unfold lookS at h
    by_cases hp : p.1 = k
    · rw [List.find?_cons_of_pos (by simpa using hp)] at h
      cases h
    · rw [List.find?_cons_of_neg (by simpa using hp)] at h
      unfold delS
      rw [if_neg hp, ih h]
theorem unload_no {ns : List KV} {name : ByteArray} (h : nameS name = false) : unloadC ns name = ns ∧ unloadE ns name = 2 := by
  unfold unloadC unloadE; rw [h]; exact ⟨rfl, rfl⟩
theorem unload_none {ns : List KV} {name : ByteArray} (h : nameS name = true) (hl : lookS ns name = none) : unloadC ns name = ns ∧ unloadE ns name = 5 := by
  unfold unloadC unloadE; rw [if_pos h, if_pos h, hl, del_none hl]; exact ⟨rfl, rfl⟩
theorem unload_some {ns : List KV} {name : ByteArray} {v : Value} (h : nameS name = true) (hl : lookS ns name = some v) : unloadC ns name = delS ns name ∧ unloadE ns name = 0 := by
  unfold unloadC unloadE; rw [if_pos h, if_pos h, hl]; exact ⟨rfl, rfl⟩

set_option maxHeartbeats 4000000 in
set_option maxRecDepth 100000 in
theorem cunload_any {B g r1 r2 : Nat} {ss ns : List KV} (name : ByteArray) (w : World) (h : CQ w g r1 r2 ss ns) (hB : B ≤ r2) (hw : B ≤ w.heap.size) :
    Calls Try.prog 26 #[.pointer (some ⟨g, 0, none⟩), .string name] w fun e w' => e = .returned (.int .i64 (unloadE ns name : Nat)) ∧ CQ w' g r1 r2 ss (unloadC ns name) ∧ Below B w w' := by
  have HN := hide (name_any name w)
  cases hx : nameS name with
  | false =>
    obtain ⟨e1, e2⟩ := unload_no (ns := ns) hx
    rw [e1, e2]
    rw [hx] at HN
    clear e1 e2 hx
    go_enter Try.func26, Try.ntmps26
    go_wp2_with (first
      | (go_at_call 35; refine (cnone_any w h).mono ?_; rintro e w2 ⟨rfl, rfl⟩)
      | (go_at_call 7; refine HN.out.mono ?_; rintro e w2 ⟨rfl, hb2⟩)
      | fail)
    go_ret
    exact ⟨rfl, h.below hb2, hb2.mono hw⟩
  | true =>
    rw [hx] at HN
    cases hl : lookS ns name with
    | none =>
      obtain ⟨e1, e2⟩ := unload_none hx hl
      rw [e1, e2]
      clear e1 e2 hx
      have HL := hide hl
      clear hl
      go_enter Try.func26, Try.ntmps26
      go_wp2_with (first
        | (go_at_call 35; refine (cnone_any w h).mono ?_; rintro e w2 ⟨rfl, rfl⟩)
        | (go_at_call 7; refine HN.out.mono ?_; rintro e w2 ⟨rfl, hb2⟩
           have hc := h.below hb2
           have c1 : w2.cell? ⟨g, 1, none⟩ = some (.map (some r2)) := hc.1.cell 1
           have hlk := look_map hc.2.2.1 name
           rw [HL.out] at hlk
           dsimp only [Option.getD, Option.isSome] at hlk)
        | fail)
      go_ret
      exact ⟨rfl, hc, hb2.mono hw⟩
    | some v =>
      obtain ⟨e1, e2⟩ := unload_some hx hl
      rw [e1, e2]
      clear e1 e2 hx
      have HL := hide hl
      clear hl
      go_enter Try.func26, Try.ntmps26
      go_wp2_with (first
        | (go_at_call 35; refine (cnone_any w h).mono ?_; rintro e w2 ⟨rfl, rfl⟩)
        | (go_at_call 7; refine HN.out.mono ?_; rintro e w2 ⟨rfl, hb2⟩
           have hc := h.below hb2
           have c1 : w2.cell? ⟨g, 1, none⟩ = some (.map (some r2)) := hc.1.cell 1
           have hlk := look_map hc.2.2.1 name
           rw [HL.out] at hlk
           dsimp only [Option.getD, Option.isSome] at hlk
           have hdel := fun ty => Ms.delete (P := Try.prog) Try.underlying71 Try.underlying9 hc.2.2.1 name ty
           obtain ⟨o, hd, hms⟩ := hdel 0
           have HMS := hide hms
           clear hms hdel)
        | fail)
      go_ret
      exact ⟨rfl, hc.put2 (m := 0) HMS.out (.inr ⟨o, rfl⟩), (hb2.mono hw).trans (below_put hB)⟩

/-- a text's digest -/
def digS (s : ByteArray) : ByteArray := ⟨(textOf (digSt s.data.toList)).toArray⟩
def putR (e : Nat) (d : ByteArray) : Value := if e = 0 then .tuple #[.string d, .int .i64 0] else .tuple #[.string ⟨#[]⟩, .int .i64 (e : Int)]

set_option maxHeartbeats 4000000 in
set_option maxRecDepth 100000 in
theorem cputs_any {B g r1 r2 : Nat} {ss ns : List KV} (script : ByteArray) (w : World) (h : CQ w g r1 r2 ss ns) (h1 : ss.length ≤ 100000) (h2 : ns.length ≤ 100000) (hs : script.size ≤ 100000) (hB : B ≤ r1) (hw : B ≤ w.heap.size) :
    Calls Try.prog 23 #[.pointer (some ⟨g, 0, none⟩), .string script] w fun e w' => e = .returned (putR (putE (ss.length + ns.length) ss (digS script) script) (digS script)) ∧ CQ w' g r1 r2 (putC (ss.length + ns.length) ss (digS script) script) ns ∧ Below B w w' := by
  have hsI : ¬ (1048576 : Int) < (script.size : Int) := by omega
  have hconv := run_conv (P := Try.prog) w 9 52 5 script Try.underlying9 Try.underlying52 Try.underlying5
  have hbc := convW_below script 5 w
  have hrc := convW_reads script 5 w
  have HD := hide (digest_any _ script.size (grownCap w script.size 0 5) script.data.toList (convW script 5 w) hrc hs)
  have hE : putE (ss.length + ns.length) ss (digS script) script = 0 ∨ putE (ss.length + ns.length) ss (digS script) script = 3 := by unfold putE; split <;> simp
  have HE := hide hE
  clear hE
  have HC := fun w (h : CQ w g r1 r2 ss ns) => hide (cput_any (digS script) script w h h1 h2 h.2.1)
  change Hid (Calls _ _ _ _ fun e w' => e = .returned (.string (digS script)) ∧ _) at HD
  generalize putC (ss.length + ns.length) ss (digS script) script = ss' at *
  generalize putE (ss.length + ns.length) ss (digS script) script = E at *
  generalize digS script = D at *
  go_enter Try.func23, Try.ntmps23
  go_upto_region 6 with (first
    | (go_at_call 35; refine (cnone_any w h).mono ?_; rintro e w2 ⟨rfl, rfl⟩)
    | (go_at_call 44; refine HD.out.mono ?_; rintro e w2 ⟨rfl, hb2⟩
       have hb3 := hbc.trans (hb2.mono hbc.size))
    | fail)
  have hc := h.below hb3
  have c0 : w2.cell? ⟨g, 0, none⟩ = some (.map (some r1)) := hc.1.cell 0
  have c0d : w2.drew.cell? ⟨g, 0, none⟩ = some (.map (some r1)) := hc.1.cell 0
  have hcd : CQ w2.drew g r1 r2 ss ns := hc
  have hbd : Below B w w2.drew := (hb3.mono hw).drew
  go_region_law (go_simp; go_at_call 45; refine (HC w2.drew hcd).out.mono ?_; rintro e w3 ⟨rfl, hm3, m3, hw3⟩)
  all_goals
    rcases HE.out with rfl | rfl
  all_goals
    go_wp2_with fail
    go_ret2
    exact ⟨rfl, hcd.put1 hm3 hw3, hbd.trans (below_puts hB hw3)⟩
end Go.Proofs.Ythfgblchlgodmaa
