/- The walks of Load, Unload, Put, Flush at a cache that has given entries; nothing else changes (package cache). Conditions: those of each theorem. -/
import Derived.Test.YthfgblchlgodmaaCaQ
namespace Go.Proofs.Ythfgblchlgodmaa
open Go.RowKit
set_option linter.unusedVariables false

set_option maxHeartbeats 4000000 in
set_option maxRecDepth 100000 in
theorem cloadM {g r1 r2 : Nat} {ss ns : List KV} (name script : ByteArray) (w : World) (h : CQ w g r1 r2 ss ns) (h1 : ss.length ≤ 100000) (h2 : ns.length ≤ 100000) :
    Calls Try.prog 24 #[.pointer (some ⟨g, 0, none⟩), .string name, .string script] w fun e w' => e = .returned (.int .i64 (loadE (ss.length + ns.length) ns name script : Nat)) ∧ CQ w' g r1 r2 ss (loadC (ss.length + ns.length) ns name script) ∧ MK r1 r2 w w' := by
  have HN := hide (name_any name w)
  cases hx : nameS name with
  | false =>
    obtain ⟨e1, e2⟩ := load_no (n := ss.length + ns.length) (ns := ns) (script := script) hx
    rw [e1, e2]
    rw [hx] at HN
    clear e1 e2 hx
    go_enter Try.func24, Try.ntmps24
    go_wp2_with (first
      | (go_at_call 35; refine (cnone_any w h).mono ?_; rintro e w2 ⟨rfl, rfl⟩)
      | (go_at_call 7; refine HN.out.mono ?_; rintro e w2 ⟨rfl, hb2⟩)
      | fail)
    go_ret
    exact ⟨rfl, h.below hb2, MK.of hb2⟩
  | true =>
    obtain ⟨e1, e2⟩ := load_yes (n := ss.length + ns.length) (ns := ns) (script := script) hx
    rw [e1, e2]
    rw [hx] at HN
    clear e1 e2 hx
    go_enter Try.func24, Try.ntmps24
    go_upto_region 5 with (first
      | (go_at_call 35; refine (cnone_any w h).mono ?_; rintro e w2 ⟨rfl, rfl⟩)
      | (go_at_call 7; refine HN.out.mono ?_; rintro e w2 ⟨rfl, hb2⟩)
      | fail)
    have hc := h.below hb2
    have c1 : w2.cell? ⟨g, 1, none⟩ = some (.map (some r2)) := hc.1.cell 1
    have c1d : w2.drew.cell? ⟨g, 1, none⟩ = some (.map (some r2)) := hc.1.cell 1
    have hcd : CQ w2.drew g r1 r2 ss ns := hc
    have hbd : MK r1 r2 w w2.drew := MK.of hb2.drew
    go_region_law (go_simp; go_at_call 45; refine (cput_any name script w2.drew hcd h1 h2 hcd.2.2.1).mono ?_; rintro e w3 ⟨rfl, hm3, m3, hw3⟩)
    all_goals
      go_wp2_with fail
      go_ret
      exact ⟨rfl, hcd.put2 hm3 hw3, hbd.trans (MK.puts (.inr rfl) hw3)⟩


set_option maxHeartbeats 4000000 in
set_option maxRecDepth 100000 in
theorem cunloadM {g r1 r2 : Nat} {ss ns : List KV} (name : ByteArray) (w : World) (h : CQ w g r1 r2 ss ns) :
    Calls Try.prog 26 #[.pointer (some ⟨g, 0, none⟩), .string name] w fun e w' => e = .returned (.int .i64 (unloadE ns name : Nat)) ∧ CQ w' g r1 r2 ss (unloadC ns name) ∧ MK r1 r2 w w' := by
  have HN := hide (name_any name w)
  cases hx : nameS name with
  | false =>
    obtain ⟨e1, e2⟩ := unload_no (ns := ns) hx
    rw [e1, e2]
    rw [hx] at HN
    clear e1 e2 hx
    go_enter Try.func26, Try.ntmps26
    go_wp2_with (first
      | (go_at_call 35; refine (cnone_any w h).mono ?_; rintro e w2 ⟨rfl, rfl⟩)
      | (go_at_call 7; refine HN.out.mono ?_; rintro e w2 ⟨rfl, hb2⟩)
      | fail)
    go_ret
    exact ⟨rfl, h.below hb2, MK.of hb2⟩
  | true =>
    rw [hx] at HN
    cases hl : lookS ns name with
    | none =>
      obtain ⟨e1, e2⟩ := unload_none hx hl
      rw [e1, e2]
      clear e1 e2 hx
      have HL := hide hl
      clear hl
      go_enter Try.func26, Try.ntmps26
      go_wp2_with (first
        | (go_at_call 35; refine (cnone_any w h).mono ?_; rintro e w2 ⟨rfl, rfl⟩)
        | (go_at_call 7; refine HN.out.mono ?_; rintro e w2 ⟨rfl, hb2⟩
           have hc := h.below hb2
           have c1 : w2.cell? ⟨g, 1, none⟩ = some (.map (some r2)) := hc.1.cell 1
           have hlk := look_map hc.2.2.1 name
           rw [HL.out] at hlk
           dsimp only [Option.getD, Option.isSome] at hlk)
        | fail)
      go_ret
      exact ⟨rfl, hc, MK.of hb2⟩
    | some v =>
      obtain ⟨e1, e2⟩ := unload_some hx hl
      rw [e1, e2]
      clear e1 e2 hx
      have HL := hide hl
      clear hl
      go_enter Try.func26, Try.ntmps26
      go_wp2_with (first
        | (go_at_call 35; refine (cnone_any w h).mono ?_; rintro e w2 ⟨rfl, rfl⟩)
        | (go_at_call 7; refine HN.out.mono ?_; rintro e w2 ⟨rfl, hb2⟩
           have hc := h.below hb2
           have c1 : w2.cell? ⟨g, 1, none⟩ = some (.map (some r2)) := hc.1.cell 1
           have hlk := look_map hc.2.2.1 name
           rw [HL.out] at hlk
           dsimp only [Option.getD, Option.isSome] at hlk
           have hdel := fun ty => Ms.delete (P := Try.prog) Try.underlying71 Try.underlying9 hc.2.2.1 name ty
           obtain ⟨o, hd, hms⟩ := hdel 0
           have HMS := hide hms
           clear hms hdel)
        | fail)
      go_ret
      exact ⟨rfl, hc.put2 (m := 0) HMS.out (.inr ⟨o, rfl⟩), (MK.of hb2).trans (MK.putObj _ (.inr rfl) o)⟩


set_option maxHeartbeats 4000000 in
set_option maxRecDepth 100000 in
theorem cputsM {g r1 r2 : Nat} {ss ns : List KV} (script : ByteArray) (w : World) (h : CQ w g r1 r2 ss ns) (h1 : ss.length ≤ 100000) (h2 : ns.length ≤ 100000) (hs : script.size ≤ 100000) :
    Calls Try.prog 23 #[.pointer (some ⟨g, 0, none⟩), .string script] w fun e w' => e = .returned (putR (putE (ss.length + ns.length) ss (digS script) script) (digS script)) ∧ CQ w' g r1 r2 (putC (ss.length + ns.length) ss (digS script) script) ns ∧ MK r1 r2 w w' := by
  have hsI : ¬ (1048576 : Int) < (script.size : Int) := by omega
  have hconv := run_conv (P := Try.prog) w 9 52 5 script Try.underlying9 Try.underlying52 Try.underlying5
  have hbc := convW_below script 5 w
  have hrc := convW_reads script 5 w
  have HD := hide (digest_any _ script.size (grownCap w script.size 0 5) script.data.toList (convW script 5 w) hrc hs)
  have hE : putE (ss.length + ns.length) ss (digS script) script = 0 ∨ putE (ss.length + ns.length) ss (digS script) script = 3 := by unfold putE; split <;> simp
  have HE := hide hE
  clear hE
  have HC := fun w (h : CQ w g r1 r2 ss ns) => hide (cput_any (digS script) script w h h1 h2 h.2.1)
  change Hid (Calls _ _ _ _ fun e w' => e = .returned (.string (digS script)) ∧ _) at HD
  generalize putC (ss.length + ns.length) ss (digS script) script = ss' at *
  generalize putE (ss.length + ns.length) ss (digS script) script = E at *
  generalize digS script = D at *
  go_enter Try.func23, Try.ntmps23
  go_upto_region 6 with (first
    | (go_at_call 35; refine (cnone_any w h).mono ?_; rintro e w2 ⟨rfl, rfl⟩)
    | (go_at_call 44; refine HD.out.mono ?_; rintro e w2 ⟨rfl, hb2⟩
       have hb3 := hbc.trans (hb2.mono hbc.size))
    | fail)
  have hc := h.below hb3
  have c0 : w2.cell? ⟨g, 0, none⟩ = some (.map (some r1)) := hc.1.cell 0
  have c0d : w2.drew.cell? ⟨g, 0, none⟩ = some (.map (some r1)) := hc.1.cell 0
  have hcd : CQ w2.drew g r1 r2 ss ns := hc
  have hbd : MK r1 r2 w w2.drew := MK.of hb3.drew
  go_region_law (go_simp; go_at_call 45; refine (HC w2.drew hcd).out.mono ?_; rintro e w3 ⟨rfl, hm3, m3, hw3⟩)
  all_goals
    rcases HE.out with rfl | rfl
  all_goals
    go_wp2_with fail
    go_ret2
    exact ⟨rfl, hcd.put1 hm3 hw3, hbd.trans (MK.puts (.inl rfl) hw3)⟩

theorem Ms.clear {w : World} {r : Nat} {kvs : List KV} (h : Ms w r kvs) (ty : TypeId) : ∃ o, (Builtin.clear_ #[71] ty #[.map (some r)]).run Try.prog w = .ok (.tuple #[]) (w.putObj r o) ∧ Ms (w.putObj r o) r [] := by
  have hlt := h.lt
  obtain ⟨es, clock, h1, h2, h3⟩ := h
  have hs : ∀ o, (setObj r o).run Try.prog w = .ok () (w.putObj r o) := fun o => by simp [setObj, Sem.run, h1, World.putObj]
  refine ⟨.map #[] clock, ?_, _, _, World.putObj_heap_same hlt, rfl, MapKept.stamped_empty _⟩
  simp [Builtin.clear_, run_underlying Try.underlying71, MapKept.run_getObj_map h1, hs]
set_option maxHeartbeats 1000000 in
set_option maxRecDepth 20000 in
theorem cflushM {g r1 r2 : Nat} {ss ns : List KV} (w : World) (h : CQ w g r1 r2 ss ns) :
    Calls Try.prog 27 #[.pointer (some ⟨g, 0, none⟩)] w fun e w' => e = .returned (.tuple #[]) ∧ CQ w' g r1 r2 [] ns ∧ MK r1 r2 w w' := by
  have c0 : w.cell? ⟨g, 0, none⟩ = some (.map (some r1)) := h.1.cell 0
  obtain ⟨o, hc, hms⟩ := h.2.1.clear 0
  have HMS := hide hms
  clear hms
  go_enter Try.func27, Try.ntmps27
  go_wp2_with (first
    | (go_at_call 35; refine (cnone_any w h).mono ?_; rintro e w2 ⟨rfl, rfl⟩)
    | fail)
  go_end0
  exact ⟨rfl, h.put1 (m := 0) HMS.out (.inr ⟨o, rfl⟩), MK.putObj _ (.inl rfl) o⟩

/-- a call of the law's -/
structure CAct where
  what : Int
  name : ByteArray
  script : ByteArray
/-- what it does to entries; the digest it tells; its error -/
def doS (S N : EL) (x : CAct) : EL := if x.what = 0 then withL S (digS x.script, x.script) else if x.what = 1 then [] else S
def doN (S N : EL) (x : CAct) : EL := if x.what = 2 then (if nameS x.name = true then withL N (x.name, x.script) else N) else if x.what = 3 then (if nameS x.name = true then dropL N x.name else N) else N
def doD (x : CAct) : ByteArray := if x.what = 0 then digS x.script else ⟨#[]⟩
def doE (N : EL) (x : CAct) : Nat := if x.what = 2 then (if nameS x.name = true then 0 else 2) else if x.what = 3 then (if nameS x.name = true then (if (findL N x.name).isSome = true then 0 else 5) else 2) else 0
theorem room_yes {n : Nat} {kind : List KV} {key script : ByteArray} (h1 : script.size ≤ 1048576) (h2 : n < 65536) : roomC n kind key script = true := by
  unfold roomC
  rw [decide_eq_true h1, decide_eq_true h2]
  simp
theorem load_in {n : Nat} {ns N S : EL} {x : CAct} (hp : ns.Perm N) (hr : Rise N) (hw : x.what = 2) (h1 : x.script.size ≤ 1048576) (h2 : n < 65536) : ∃ ns' : EL, loadC n (ns.map eKV) x.name x.script = ns'.map eKV ∧ ns'.Perm (doN S N x) ∧ Rise (doN S N x) ∧ loadE n (ns.map eKV) x.name x.script = doE N x := by
  unfold doN doE
  rw [if_pos hw, if_pos hw]
  cases hn : nameS x.name with
  | false =>
    obtain ⟨e1, e2⟩ := load_no (n := n) (ns := ns.map eKV) (script := x.script) hn
    exact ⟨ns, e1, hp, hr, e2⟩
  | true =>
    obtain ⟨e1, e2⟩ := load_yes (n := n) (ns := ns.map eKV) (script := x.script) hn
    obtain ⟨p1, p2⟩ := putE_yes (n := n) (kind := ns.map eKV) (key := x.name) (script := x.script) (room_yes h1 h2)
    rw [e1, e2, p1, p2, put_eKV ns (x.name, x.script)]
    exact ⟨_, rfl, put_of hp hr _, hr.with _, rfl⟩
theorem unload_in {ns N S : EL} {x : CAct} (hp : ns.Perm N) (hr : Rise N) (hw : x.what = 3) : ∃ ns' : EL, unloadC (ns.map eKV) x.name = ns'.map eKV ∧ ns'.Perm (doN S N x) ∧ Rise (doN S N x) ∧ unloadE (ns.map eKV) x.name = doE N x := by
  unfold doN doE
  have h2 : ¬ x.what = 2 := by omega
  rw [if_neg h2, if_pos hw, if_neg h2, if_pos hw]
  cases hn : nameS x.name with
  | false =>
    obtain ⟨e1, e2⟩ := unload_no (ns := ns.map eKV) hn
    exact ⟨ns, e1, hp, hr, e2⟩
  | true =>
    have hl := look_eKV ns x.name
    rw [find_of_perm hp hr] at hl
    have hd : (dropL N x.name).Perm (dropL N x.name) := .refl _
    cases hf : findL N x.name with
    | none =>
      rw [hf] at hl
      obtain ⟨e1, e2⟩ := unload_none hn hl
      rw [e1, e2, ← del_none hl, del_eKV]
      exact ⟨_, rfl, del_of hp hr _, hr.drop _, rfl⟩
    | some y =>
      rw [hf] at hl
      obtain ⟨e1, e2⟩ := unload_some hn hl
      rw [e1, e2, del_eKV]
      exact ⟨_, rfl, del_of hp hr _, hr.drop _, rfl⟩
theorem put_in {n : Nat} {ss S N : EL} {x : CAct} (hp : ss.Perm S) (hr : Rise S) (hw : x.what = 0) (h1 : x.script.size ≤ 1048576) (h2 : n < 65536) : ∃ ss' : EL, putC n (ss.map eKV) (digS x.script) x.script = ss'.map eKV ∧ ss'.Perm (doS S N x) ∧ Rise (doS S N x) ∧ putE n (ss.map eKV) (digS x.script) x.script = 0 := by
  unfold doS
  rw [if_pos hw]
  obtain ⟨p1, p2⟩ := putE_yes (n := n) (kind := ss.map eKV) (key := digS x.script) (script := x.script) (room_yes h1 h2)
  rw [p1, p2, put_eKV ss (digS x.script, x.script)]
  exact ⟨_, rfl, put_of hp hr _, hr.with _, rfl⟩
end Go.Proofs.Ythfgblchlgodmaa
