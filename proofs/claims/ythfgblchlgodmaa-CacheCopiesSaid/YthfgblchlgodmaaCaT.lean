/- The walks of the law's do, few (package taborlaw21). Conditions: those of each theorem. -/
import Derived.Test.YthfgblchlgodmaaCaS
import Derived.Test.YthfgblchlgodmaaCaR
import Derived.Test.YthfgblchlgodmaaCaG
namespace Go.Proofs.Ythfgblchlgodmaa
open Go.RowKit
set_option linter.unusedVariables false

theorem CE.lens {w : World} {g r1 r2 : Nat} {S N : EL} (h : CE w g r1 r2 S N) : ∃ ss ns : EL, CQ w g r1 r2 (ss.map eKV) (ns.map eKV) ∧ ss.Perm S ∧ ns.Perm N ∧ Rise S ∧ Rise N ∧ (ss.map eKV).length = S.length ∧ (ns.map eKV).length = N.length := by
  obtain ⟨ss, ns, h1, h2, h3, h4, h5⟩ := h
  exact ⟨ss, ns, h1, h2, h3, h4, h5, by rw [List.length_map, h2.length_eq], by rw [List.length_map, h3.length_eq]⟩
def actV (x : CAct) : Array Value := #[.int .i64 x.what, .string x.name, .string x.script]

set_option maxHeartbeats 4000000 in
set_option maxRecDepth 20000 in
theorem ldo_any {g r1 r2 : Nat} {S N : EL} {x : CAct} (w : World) (h : CE w g r1 r2 S N) (hx0 : 0 ≤ x.what) (hx3 : x.what ≤ 3) (hs : x.script.size ≤ 100000) (hl : S.length + N.length < 60000) :
    Calls Try.prog 21 #[.pointer (some ⟨g, 0, none⟩), .agg (actV x)] w fun e w' => e = .returned (.tuple #[.string (doD x), .int .i64 (doE N x : Nat)]) ∧ CE w' g r1 r2 (doS S N x) (doN S N x) ∧ MK r1 r2 w w' := by
  obtain ⟨what, name, script⟩ := x
  simp only at hx0 hx3 hs
  simp only [actV]
  have hk0 := Blk.new w 39 #[.int .i64 what, .string name, .string script]
  have hb0 : Below w.heap.size w (w.alloc (.cells #[.int .i64 what, .string name, .string script] 39)) := (Below.refl _ w).alloc (Nat.le_refl _) _
  have h1 := h.below hb0
  rcases (show what = 0 ∨ what = 1 ∨ what = 2 ∨ what = 3 by omega) with rfl | rfl | rfl | rfl
  · obtain ⟨ss, ns, hq, hp1, hp2, hr1, hr2, l1, l2⟩ := h1.lens
    have HP := cputsM script _ hq (by omega) (by omega) hs
    obtain ⟨ss', e1, hp', hr', e2⟩ := put_in (n := (ss.map eKV).length + (ns.map eKV).length) (x := ⟨0, name, script⟩) (N := N) hp1 hr1 rfl (by show script.size ≤ _; omega) (by omega)
    rw [e1, e2, putR_zero] at HP
    have HP := hide HP
    clear h h1 hq l1 l2 e1 e2
    go_enter Try.func21, Try.ntmps21
    go_upto_region 1 with (fail)
    have q0 := hk0.cell 0
    have q2 := hk0.cell 2
    rw [show (#[Value.int .i64 0, .string name, .string script] : Array Value)[0]? = some (.int .i64 0) from rfl] at q0
    rw [show (#[Value.int .i64 0, .string name, .string script] : Array Value)[2]? = some (.string script) from rfl] at q2
    generalize w.alloc (.cells #[.int .i64 0, .string name, .string script] 39) = w1 at *
    go_wp2_with (first
      | (go_at_call 23; go_must (refine HP.out.mono ?_; rintro e w2 ⟨rfl, hc2, hm2⟩))
      | (go_at_call 25; refine (num_any _ _).mono ?_; rintro e w3 ⟨rfl, rfl⟩)
      | fail)
    go_ret2
    exact ⟨rfl, ⟨ss', ns, hc2, hp', hp2, hr', hr2⟩, (MK.of hb0).trans hm2⟩
  · obtain ⟨ss, ns, hq, hp1, hp2, hr1, hr2, l1, l2⟩ := h1.lens
    have HP := hide (cflushM _ hq)
    clear h h1 hq l1 l2
    go_enter Try.func21, Try.ntmps21
    go_upto_region 1 with (fail)
    have q0 := hk0.cell 0
    rw [show (#[Value.int .i64 1, .string name, .string script] : Array Value)[0]? = some (.int .i64 1) from rfl] at q0
    generalize w.alloc (.cells #[.int .i64 1, .string name, .string script] 39) = w1 at *
    go_wp2_with (first
      | (go_at_call 27; go_must (refine HP.out.mono ?_; rintro e w2 ⟨rfl, hc2, hm2⟩))
      | fail)
    go_ret2
    exact ⟨rfl, ⟨[], ns, hc2, .refl _, hp2, List.Pairwise.nil, hr2⟩, (MK.of hb0).trans hm2⟩
  · obtain ⟨ss, ns, hq, hp1, hp2, hr1, hr2, l1, l2⟩ := h1.lens
    have HP := cloadM name script _ hq (by omega) (by omega)
    obtain ⟨ns', e1, hp', hr', e2⟩ := load_in (n := (ss.map eKV).length + (ns.map eKV).length) (x := ⟨2, name, script⟩) (S := S) hp2 hr2 rfl (by show script.size ≤ _; omega) (by omega)
    rw [e1, e2] at HP
    have HP := hide HP
    clear h h1 hq l1 l2 e1 e2
    go_enter Try.func21, Try.ntmps21
    go_upto_region 1 with (fail)
    have q0 := hk0.cell 0
    have q1 := hk0.cell 1
    have q2 := hk0.cell 2
    rw [show (#[Value.int .i64 2, .string name, .string script] : Array Value)[0]? = some (.int .i64 2) from rfl] at q0
    rw [show (#[Value.int .i64 2, .string name, .string script] : Array Value)[1]? = some (.string name) from rfl] at q1
    rw [show (#[Value.int .i64 2, .string name, .string script] : Array Value)[2]? = some (.string script) from rfl] at q2
    generalize w.alloc (.cells #[.int .i64 2, .string name, .string script] 39) = w1 at *
    go_wp2_with (first
      | (go_at_call 24; go_must (refine HP.out.mono ?_; rintro e w2 ⟨rfl, hc2, hm2⟩))
      | (go_at_call 25; refine (num_any _ _).mono ?_; rintro e w3 ⟨rfl, rfl⟩)
      | fail)
    go_ret2
    exact ⟨rfl, ⟨ss, ns', hc2, hp1, hp', hr1, hr'⟩, (MK.of hb0).trans hm2⟩
  · obtain ⟨ss, ns, hq, hp1, hp2, hr1, hr2, l1, l2⟩ := h1.lens
    have HP := cunloadM name _ hq
    obtain ⟨ns', e1, hp', hr', e2⟩ := unload_in (x := ⟨3, name, script⟩) (S := S) hp2 hr2 rfl
    rw [e1, e2] at HP
    have HP := hide HP
    clear h h1 hq l1 l2 e1 e2
    go_enter Try.func21, Try.ntmps21
    go_upto_region 1 with (fail)
    have q0 := hk0.cell 0
    have q1 := hk0.cell 1
    rw [show (#[Value.int .i64 3, .string name, .string script] : Array Value)[0]? = some (.int .i64 3) from rfl] at q0
    rw [show (#[Value.int .i64 3, .string name, .string script] : Array Value)[1]? = some (.string name) from rfl] at q1
    generalize w.alloc (.cells #[.int .i64 3, .string name, .string script] 39) = w1 at *
    go_wp2_with (first
      | (go_at_call 26; go_must (refine HP.out.mono ?_; rintro e w2 ⟨rfl, hc2, hm2⟩))
      | (go_at_call 25; refine (num_any _ _).mono ?_; rintro e w3 ⟨rfl, rfl⟩)
      | fail)
    go_ret2
    exact ⟨rfl, ⟨ss, ns', hc2, hp1, hp', hr1, hr'⟩, (MK.of hb0).trans hm2⟩

/-- calls as cells -/
def avs (l : List CAct) : List Value := l.flatMap fun x => [.int .i64 x.what, .string x.name, .string x.script]
theorem avs_len (l : List CAct) : (avs l).length = l.length * 3 := by
  induction l with
  | nil => rfl
  | cons x l ih =>
    have e : avs (x :: l) = [.int .i64 x.what, .string x.name, .string x.script] ++ avs l := rfl
    rw [e, List.length_append, ih, List.length_cons]
    simp
    omega
theorem avs_at : ∀ (l : List CAct) (k : Nat) (x : CAct), l[k]? = some x → (avs l)[k * 3]? = some (.int .i64 x.what) ∧ (avs l)[k * 3 + 1]? = some (.string x.name) ∧ (avs l)[k * 3 + 2]? = some (.string x.script)
  | [], k, x, h => by simp at h
  | y :: l, 0, x, h => by
    simp at h
    subst h
    exact ⟨rfl, rfl, rfl⟩
  | y :: l, k + 1, x, h => by
    have e : avs (y :: l) = [.int .i64 y.what, .string y.name, .string y.script] ++ avs l := rfl
    obtain ⟨h1, h2, h3⟩ := avs_at l k x (by simpa using h)
    rw [e]
    refine ⟨?_, ?_, ?_⟩
    · rw [List.getElem?_append_right (by simp; omega), ← h1]; congr 1; simp; omega
    · rw [List.getElem?_append_right (by simp; omega), ← h2]; congr 1; simp; omega
    · rw [List.getElem?_append_right (by simp; omega), ← h3]; congr 1; simp; omega
theorem Reads.alen {w : World} {B n : Nat} {A : Option Addr} {l : List CAct} (h : Reads w B 3 A n (avs l)) : l.length = n := by
  have := h.1
  rw [avs_len] at this
  omega
theorem Reads.act {w : World} {B n : Nat} {A : Option Addr} {l : List CAct} {k : Nat} (h : Reads w B 3 A n (avs l)) (hk : k < n) : ∃ b o x, A = some ⟨b, o, none⟩ ∧ b < B ∧ l[k]? = some x ∧ w.cell? ⟨b, o + k * 3, none⟩ = some (.int .i64 x.what) ∧ w.cell? ⟨b, o + k * 3 + 1, none⟩ = some (.string x.name) ∧ w.cell? ⟨b, o + k * 3 + 2, none⟩ = some (.string x.script) := by
  have hl := h.alen
  obtain ⟨b, o, e, hb, hc⟩ := h.2 (by omega)
  have hk' : k < l.length := by omega
  obtain ⟨h1, h2, h3⟩ := avs_at l k _ (List.getElem?_eq_getElem hk')
  exact ⟨b, o, l[k], e, hb, List.getElem?_eq_getElem hk', hc _ _ h1, hc _ _ h2, hc _ _ h3⟩
def asum (l : List CAct) : Nat := (l.map fun x => 50 + x.name.size + x.script.size).sum
theorem asum_snoc {l : List CAct} {t : Nat} {x : CAct} (hx : l[t]? = some x) : asum (l.take (t + 1)) = asum (l.take t) + 50 + x.name.size + x.script.size := by
  unfold asum
  rw [take_snocD hx, List.map_append, List.sum_append]
  simp
  omega
theorem asum_take (l : List CAct) (t : Nat) : asum (l.take t) ≤ asum l := by
  have h : l = l.take t ++ l.drop t := (List.take_append_drop t l).symm
  conv => rhs; rw [h]
  unfold asum
  rw [List.map_append, List.sum_append]
  omega
theorem asum_mem {l : List CAct} {x : CAct} (hx : x ∈ l) : 50 + x.name.size + x.script.size ≤ asum l := by
  obtain ⟨l1, l2, rfl⟩ := List.append_of_mem hx
  unfold asum
  rw [List.map_append, List.sum_append, List.map_cons, List.sum_cons]
  omega
theorem asum_len (l : List CAct) : l.length * 50 ≤ asum l := by
  induction l with
  | nil => exact Nat.le_refl _
  | cons x l ih =>
    unfold asum at ih ⊢
    rw [List.map_cons, List.sum_cons, List.length_cons]
    omega
/-- are calls few, and of known kinds? -/
def fewB (l : List CAct) : Bool := decide (asum l ≤ 3000) && l.all fun x => decide (0 ≤ x.what) && decide (x.what ≤ 3)
theorem few_yes {l : List CAct} (h : fewB l = true) : asum l ≤ 3000 ∧ ∀ x ∈ l, 0 ≤ x.what ∧ x.what ≤ 3 := by
  unfold fewB at h
  rw [Bool.and_eq_true] at h
  refine ⟨of_decide_eq_true h.1, fun x hx => ?_⟩
  have := List.all_eq_true.1 h.2 x hx
  rw [Bool.and_eq_true] at this
  exact ⟨of_decide_eq_true this.1, of_decide_eq_true this.2⟩
theorem few_no {l : List CAct} {x : CAct} (hx : x ∈ l) (h : x.what < 0 ∨ 3 < x.what) : fewB l = false := by
  cases hb : fewB l with
  | false => rfl
  | true => have := (few_yes hb).2 x hx; omega
theorem few_big {l : List CAct} (h : 3000 < asum l) : fewB l = false := by
  cases hb : fewB l with
  | false => rfl
  | true => have := (few_yes hb).1; omega
set_option maxHeartbeats 4000000 in
theorem few_any {A : Option Addr} {n c : Nat} {l : List CAct} (w : World) (hr : Reads w w.heap.size 3 A n (avs l)) (hn : n ≤ maxLen) (hs : ∀ x ∈ l, x.name.size ≤ 140737488351232 ∧ x.script.size ≤ 140737488351232) :
    Calls Try.prog 10 #[.slice A n c] w fun e w' => e = .returned (.bool (fewB l)) ∧ Below w.heap.size w w' := by
  have HL := hide hr.alen
  unfold maxLen at hn
  go_enter Try.func10, Try.ntmps10
  go_wp2_with fail
  go_loopw [3, 4] (fun s i wr => ∃ t S : Nat, t ≤ n ∧ i = .int .i64 t ∧ s = .int .i64 S ∧ S = asum (l.take t) ∧ S ≤ 400000000000000 ∧ (∀ x ∈ l.take t, 0 ≤ x.what ∧ x.what ≤ 3) ∧ Below w.heap.size w wr) (fun _ i _ => n - (intOf i).toNat)
  case atStart => exact ⟨0, 0, by omega, rfl, rfl, rfl, by omega, fun x hx => by simp at hx, Below.refl _ _⟩
  case round =>
    obtain ⟨t, S, ht, rfl, rfl, hS, hSb, hall, hbw⟩ := hrel
    have HS := hide hS
    have HALL := hide hall
    clear hS hall
    by_cases htn : t < n
    · have htI : (t : Int) < (n : Int) := by omega
      have ht0 : (0 : Int) ≤ (t : Int) := by omega
      have hw2 : IntKind.i64.wrap ((t : Int) + 1) = (t : Int) + 1 := IntWalk.i64_in _ (by omega)
      by_cases h3 : S ≤ 3000
      · have h3I : (S : Int) ≤ 3000 := by omega
        have hd3 : decide ((S : Int) ≤ 3000) = true := decide_eq_true h3I
        obtain ⟨b, o, x, rfl, hb, hlx, k1, k2, k3⟩ := (hr.below hbw).act htn
        obtain ⟨s1, s2⟩ := hs x (List.mem_of_getElem? hlx)
        have HX := hide (asum_snoc hlx)
        have HXM := hide hlx
        have hwa : IntKind.i64.wrap ((S : Int) + 50) = ((S + 50 : Nat) : Int) := by rw [IntWalk.i64_in _ (by omega)]; omega
        have hwb : IntKind.i64.wrap (((S + 50 : Nat) : Int) + (x.name.size : Int)) = ((S + 50 + x.name.size : Nat) : Int) := by rw [IntWalk.i64_in _ (by omega)]; omega
        have hwc : IntKind.i64.wrap (((S + 50 + x.name.size : Nat) : Int) + (x.script.size : Int)) = ((S + 50 + x.name.size + x.script.size : Nat) : Int) := by rw [IntWalk.i64_in _ (by omega)]; omega
        have hnb : Hid (S + 50 + x.name.size + x.script.size ≤ 400000000000000) := by show _ ≤ _; omega
        clear hlx hs
        obtain ⟨S1, hS1⟩ : ∃ S1, S1 = S + 50 := ⟨_, rfl⟩
        obtain ⟨S2, hS2⟩ : ∃ S2, S2 = S1 + x.name.size := ⟨_, rfl⟩
        obtain ⟨S3, hS3⟩ : ∃ S3, S3 = S2 + x.script.size := ⟨_, rfl⟩
        rw [← hS1] at hwa hwb hwc hnb
        rw [← hS2] at hwb hwc hnb
        rw [← hS3] at hwc hnb
        have HE : Hid (S3 = S + 50 + x.name.size + x.script.size) := by show _ = _; omega
        clear hS1 hS2 hS3 s1 s2
        by_cases hx0 : x.what < 0
        · have dx : decide (x.what < 0) = true := decide_eq_true hx0
          have HF := hide (few_no (List.mem_of_getElem? HXM.out) (.inl hx0))
          clear hx0
          go_wp2_with fail
          go_quiet (fail)
          go_wp2_with fail
          go_ret
          exact ⟨ret_bool HF.out.symm, below_drewN hbw _⟩
        · have dx : decide (x.what < 0) = false := decide_eq_false hx0
          by_cases hx3 : 3 < x.what
          · have dx3 : decide (3 < x.what) = true := decide_eq_true hx3
            have HF := hide (few_no (List.mem_of_getElem? HXM.out) (.inr hx3))
            clear hx0 hx3
            go_wp2_with fail
            go_quiet (fail)
            go_wp2_with fail
            go_ret
            exact ⟨ret_bool HF.out.symm, below_drewN hbw _⟩
          · have dx3 : decide (3 < x.what) = false := decide_eq_false hx3
            have HXW : Hid (0 ≤ x.what ∧ x.what ≤ 3) := ⟨by omega, by omega⟩
            clear hx0 hx3
            go_wp2_with fail
            go_quiet (fail)
            go_wp2_with fail
            go_roundw
            case rel => exact ⟨t + 1, S3, by omega, by simp, rfl, by rw [HX.out, ← HS.out, HE.out], hnb.out, fun y hy => by
              rw [take_snocD HXM.out] at hy
              rcases List.mem_append.1 hy with hy | hy
              · exact HALL.out y hy
              · rw [List.mem_singleton.1 hy]; exact HXW.out, below_drewN hbw _⟩
            case measure => simp [intOf]; omega
      · have h3I : ¬ (S : Int) ≤ 3000 := by omega
        have hd3 : decide ((S : Int) ≤ 3000) = false := decide_eq_false h3I
        have HF : Hid (fewB l = false) := few_big (by have := asum_take l t; rw [← HS.out] at this; omega)
        clear hs
        go_wp2_with fail
        go_ret
        exact ⟨ret_bool HF.out.symm, hbw⟩
    · have htI : ¬ (t : Int) < (n : Int) := by omega
      have hfin : Hid (S = asum l) := by
        show _ = _
        rw [HS.out, List.take_of_length_le (by rw [HL.out]; omega)]
      have HF : Hid (decide ((S : Int) ≤ 3000) = fewB l) := by
        show _ = _
        have hall := HALL.out
        rw [List.take_of_length_le (by rw [HL.out]; omega)] at hall
        have ha : (l.all fun x => decide (0 ≤ x.what) && decide (x.what ≤ 3)) = true := by
          rw [List.all_eq_true]
          intro x hx
          rw [Bool.and_eq_true]
          exact ⟨decide_eq_true (hall x hx).1, decide_eq_true (hall x hx).2⟩
        unfold fewB
        rw [ha, ← hfin.out, Bool.and_true]
        by_cases h : S ≤ 3000
        · rw [decide_eq_true h, decide_eq_true (by omega)]
        · rw [decide_eq_false h, decide_eq_false (by omega)]
      clear hs
      go_wp2_with fail
      go_ret
      exact ⟨ret_bool (by rw [← HF.out]), hbw⟩
end Go.Proofs.Ythfgblchlgodmaa
