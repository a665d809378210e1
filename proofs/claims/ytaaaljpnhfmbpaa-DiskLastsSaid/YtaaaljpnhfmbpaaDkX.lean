/- The walk of the document's Check (package taborref02); of the law's few (package taborlaw02). Conditions: those of each theorem. -/
import Derived.Test.YtaaaljpnhfmbpaaDkW
namespace Go.Proofs.Ytaaaljpnhfmbpaa
open Go.RowKit
set_option linter.unusedVariables false

def longA (l : List AF) : Bool := l.any fun x => decide (1048576 < x.b.size)
/-- the name ahead of place t -/
def prevA (l : List AF) (t : Nat) : ByteArray := if t = 0 then ⟨#[]⟩ else match l[t - 1]? with | some y => y.name | none => ⟨#[]⟩
theorem longA_snoc {l : List AF} {t : Nat} {x : AF} (hx : l[t]? = some x) : longA (l.take (t + 1)) = (longA (l.take t) || decide (1048576 < x.b.size)) := by
  unfold longA
  rw [take_snocD hx, List.any_append]
  simp
theorem chk_step {l : List AF} {t : Nat} {x : AF} (hx : l[t]? = some x) (h : chkF l = chk (prevA l t) (longA (l.take t)) (l.drop t)) :
    (badA (prevA l t) x = true → chkF l = 2) ∧ (badA (prevA l t) x = false → chkF l = chk (prevA l (t + 1)) (longA (l.take (t + 1))) (l.drop (t + 1))) := by
  have hdr : l.drop t = x :: l.drop (t + 1) := by
    obtain ⟨hlt, hx'⟩ := List.getElem?_eq_some_iff.1 hx
    rw [List.drop_eq_getElem_cons hlt, hx']
  rw [h, hdr]
  refine ⟨fun hb => ?_, fun hb => ?_⟩
  · unfold chk
    rw [if_pos hb]
  · rw [longA_snoc hx]
    show (if badA (prevA l t) x then 2 else _) = _
    rw [if_neg (by rw [hb]; decide)]
    unfold prevA
    rw [if_neg (by omega), Nat.add_sub_cancel, hx]
theorem first_less {x : ByteArray} (h : nameDS x = true) : leS x ⟨#[]⟩ = false := by
  have hs : 0 < x.size := by
    unfold nameDS at h
    simp only [Bool.and_eq_true, decide_eq_true_eq] at h
    exact h.1.1
  unfold leS
  rw [less_eq, Bool.or_eq_false_iff]
  refine ⟨decide_eq_false fun hl => ?_, ?_⟩
  · have hl' : x.data.toList < [] := hl
    simp at hl'
  · rw [str_eq]
    refine decide_eq_false fun e => ?_
    subst e
    exact absurd hs (by decide)

set_option maxHeartbeats 8000000 in
set_option maxRecDepth 20000 in
theorem rcheck_any {A : Option Addr} {n c : Nat} {l : List AF} (w : World) (hr : Reads w w.heap.size 3 A n (afs l)) (hn : n ≤ 100000) (hs : ∀ x ∈ l, x.name.size ≤ 140737488351232 ∧ x.b.size ≤ 140737488351232) :
    Calls Try.prog 15 #[.slice A n c] w fun e w' => e = .returned (.int .i64 (chkF l)) ∧ Below w.heap.size w w' := by
  have HL := hide hr.alen
  go_enter Try.func15, Try.ntmps15
  go_wp2_with fail
  go_loopw [3] (fun i wr => ∃ t : Nat, t ≤ n ∧ i = .int .i64 t ∧ Below w.heap.size w wr ∧ chkF l = chk (prevA l t) (longA (l.take t)) (l.drop t)) (fun i _ => n - (intOf i).toNat)
  case atStart => exact ⟨0, by omega, rfl, Below.refl _ _, rfl⟩
  case round =>
    obtain ⟨t, ht, rfl, hbw, hck⟩ := hrel
    by_cases htn : t < n
    · have htI : (t : Int) < (n : Int) := by omega
      have ht0 : (0 : Int) ≤ (t : Int) := by omega
      have hw2 : IntKind.i64.wrap ((t : Int) + 1) = (t : Int) + 1 := IntWalk.i64_in _ (by omega)
      obtain ⟨b, o, x, rfl, hb, hlx, k1, k2, k3⟩ := (hr.below hbw).file htn
      have hxs := hs x (List.mem_of_getElem? hlx)
      have HS := hide (chk_step hlx hck)
      have HN := hide (fun w => (rname_any x.name w hxs.1).mono fun e w' ⟨he, hw⟩ => (⟨he, hw.symm⟩ : e = Ending.returned (.bool (nameDS x.name)) ∧ w' = w))
      have HP : Hid (0 < t → ∃ y, l[t - 1]? = some y ∧ prevA l t = y.name) := fun h0 => by
        have hlt : t - 1 < l.length := by rw [HL.out]; omega
        refine ⟨l[t - 1], List.getElem?_eq_getElem hlt, ?_⟩
        unfold prevA
        rw [if_neg (by omega), List.getElem?_eq_getElem hlt]
      have HP0 : Hid (t = 0 → prevA l t = ⟨#[]⟩) := fun h0 => by unfold prevA; rw [if_pos h0]
      clear hck hs
      cases hx : nameDS x.name with
      | false =>
        rw [hx] at HN
        have HB : Hid (badA (prevA l t) x = true) := by show _ = _; unfold badA; simp [hx]
        clear hx hlx
        go_wp2_with fail
        go_quiet ((go_at_call 11; exact Calls.quiet_of_same (HN.out _)))
        go_wp2_with fail
        go_ret
        exact ⟨by rw [HS.out.1 HB.out]; rfl, below_drewN hbw _⟩
      | true =>
        rw [hx] at HN
        have HX := hide hx
        clear hx
        obtain ⟨la, hla⟩ : ∃ la, la = prevA l t := ⟨_, rfl⟩
        have HLA := hide hla
        rw [← hla] at HS HP HP0
        have hrest : ∀ (W : World), True := fun _ => trivial
        by_cases hz : t = 0
        · have hz0 : decide ((0 : Int) < (t : Int)) = false := by simp [hz]
          have hz1 : decide (0 < t) = false := by simp [hz]
          have hle : leS x.name la = false := by rw [HP0.out hz]; exact first_less HX.out
          have HLE := hide hle
          clear hz hle hla hlx hrest
          by_cases h3 : x.sy < 0
          · have d3 : decide (x.sy < 0) = true := decide_eq_true h3
            have HB : Hid (badA la x = true) := by show _ = _; unfold badA; simp [h3]
            clear h3
            go_wp2_with fail
            go_quiet ((go_at_call 11; exact Calls.quiet_of_same (HN.out _)))
            go_wp2_with fail
            go_ret
            exact ⟨by rw [HS.out.1 HB.out]; rfl, below_drewN hbw _⟩
          · have d3 : decide (x.sy < 0) = false := decide_eq_false h3
            by_cases h4 : (x.b.size : Int) < x.sy
            · have d4 : decide ((x.b.size : Int) < x.sy) = true := decide_eq_true h4
              have HB : Hid (badA la x = true) := by show _ = _; unfold badA; simp [h4]
              clear h3 h4
              go_wp2_with fail
              go_quiet ((go_at_call 11; exact Calls.quiet_of_same (HN.out _)))
              go_wp2_with fail
              go_ret
              exact ⟨by rw [HS.out.1 HB.out]; rfl, below_drewN hbw _⟩
            · have d4 : decide ((x.b.size : Int) < x.sy) = false := decide_eq_false h4
              have HB : Hid (badA la x = false) := by show _ = _; unfold badA; rw [HX.out, HLE.out]; simp [h3, h4]
              clear h3 h4
              go_wp2_with fail
              go_quiet ((go_at_call 11; exact Calls.quiet_of_same (HN.out _)))
              go_wp2_with fail
              go_roundw
              case rel => exact ⟨t + 1, by omega, by simp, below_drewN hbw _, HS.out.2 HB.out⟩
              case measure => simp [intOf]; omega
        · have hz0 : decide ((0 : Int) < (t : Int)) = true := by simp; omega
          have hz1 : decide (0 < t) = true := by simp; omega
          obtain ⟨y, hy, hyl⟩ := HP.out (by omega)
          obtain ⟨b', o', y', e', hb', hly, j1, _, _⟩ := (hr.below hbw).file (k := t - 1) (by omega)
          obtain ⟨rfl, rfl⟩ : b = b' ∧ o = o' := by simpa using e'
          obtain rfl : y = y' := by rw [hy] at hly; injection hly
          rw [← hyl] at j1
          have hwm : IntKind.i64.wrap ((t : Int) - 1) = ((t - 1 : Nat) : Int) := by rw [IntWalk.i64_in _ (by omega)]; omega
          have htm0 : (0 : Int) ≤ ((t - 1 : Nat) : Int) := by omega
          have htm1 : ((t - 1 : Nat) : Int) < (n : Int) := by omega
          clear e' hb' hy hly hz hla hlx hyl hrest
          cases hle : (Op.bytesLess x.name.toList la.toList || x.name.toList == la.toList) with
          | true =>
            have HB : Hid (badA la x = true) := by show _ = _; unfold badA; simp [leS, hle]
            go_wp2_with fail
            go_quiet ((go_at_call 11; exact Calls.quiet_of_same (HN.out _)))
            go_wp2_with fail
            go_ret
            exact ⟨by rw [HS.out.1 HB.out]; rfl, below_drewN hbw _⟩
          | false =>
            have HLE : Hid (leS x.name la = false) := hle
            by_cases h3 : x.sy < 0
            · have d3 : decide (x.sy < 0) = true := decide_eq_true h3
              have HB : Hid (badA la x = true) := by show _ = _; unfold badA; simp [h3]
              clear h3
              go_wp2_with fail
              go_quiet ((go_at_call 11; exact Calls.quiet_of_same (HN.out _)))
              go_wp2_with fail
              go_ret
              exact ⟨by rw [HS.out.1 HB.out]; rfl, below_drewN hbw _⟩
            · have d3 : decide (x.sy < 0) = false := decide_eq_false h3
              by_cases h4 : (x.b.size : Int) < x.sy
              · have d4 : decide ((x.b.size : Int) < x.sy) = true := decide_eq_true h4
                have HB : Hid (badA la x = true) := by show _ = _; unfold badA; simp [h4]
                clear h3 h4
                go_wp2_with fail
                go_quiet ((go_at_call 11; exact Calls.quiet_of_same (HN.out _)))
                go_wp2_with fail
                go_ret
                exact ⟨by rw [HS.out.1 HB.out]; rfl, below_drewN hbw _⟩
              · have d4 : decide ((x.b.size : Int) < x.sy) = false := decide_eq_false h4
                have HB : Hid (badA la x = false) := by show _ = _; unfold badA; rw [HX.out, HLE.out]; simp [h3, h4]
                clear h3 h4
                go_wp2_with fail
                go_quiet ((go_at_call 11; exact Calls.quiet_of_same (HN.out _)))
                go_wp2_with fail
                go_roundw
                case rel => exact ⟨t + 1, by omega, by simp, below_drewN hbw _, HS.out.2 HB.out⟩
                case measure => simp [intOf]; omega
    · have htI : ¬ (t : Int) < (n : Int) := by omega
      have htn' : t = n := by omega
      have hend : Hid (chkF l = if longA l then 3 else 0) := by
        show _ = _
        rw [hck, List.drop_eq_nil_of_le (by rw [HL.out]; omega), List.take_of_length_le (by rw [HL.out]; omega)]
        rfl
      clear hck hs
      go_wp2_with fail
      go_loopw [4] (fun i wr => ∃ t : Nat, t ≤ n ∧ i = .int .i64 t ∧ Below w.heap.size w wr ∧ longA (l.take t) = false) (fun i _ => n - (intOf i).toNat)
      case atStart => exact ⟨0, by omega, rfl, hbw, rfl⟩
      case round =>
        obtain ⟨t, ht, rfl, hbw, hlg⟩ := hrel
        have HLG := hide hlg
        clear hlg
        by_cases htn : t < n
        · have htI : (t : Int) < (n : Int) := by omega
          have ht0 : (0 : Int) ≤ (t : Int) := by omega
          have hw2 : IntKind.i64.wrap ((t : Int) + 1) = (t : Int) + 1 := IntWalk.i64_in _ (by omega)
          obtain ⟨b, o, x, rfl, hb, hlx, k1, k2, k3⟩ := (hr.below hbw).file htn
          have HX := hide (longA_snoc hlx)
          have HM := hide (List.mem_of_getElem? hlx)
          clear hlx
          by_cases h5 : 1048576 < x.b.size
          · have d5 : decide ((1048576 : Int) < (x.b.size : Int)) = true := decide_eq_true (by omega)
            have H5 := hide h5
            clear h5
            go_wp2_with fail
            go_ret
            refine ⟨?_, hbw⟩
            have hl : longA l = true := by
              unfold longA
              rw [List.any_eq_true]
              exact ⟨x, HM.out, decide_eq_true H5.out⟩
            rw [hend.out, hl]
            rfl
          · have d5 : decide ((1048576 : Int) < (x.b.size : Int)) = false := decide_eq_false (by omega)
            have H5 := hide h5
            clear h5
            go_wp2_with fail
            go_roundw
            case rel => exact ⟨t + 1, by omega, by simp, hbw, by rw [HX.out, HLG.out, decide_eq_false H5.out]; rfl⟩
            case measure => simp [intOf]; omega
        · have htI : ¬ (t : Int) < (n : Int) := by omega
          go_wp2_with fail
          go_ret
          refine ⟨?_, hbw⟩
          have := HLG.out
          rw [List.take_of_length_le (by rw [HL.out]; omega)] at this
          rw [hend.out, this]
          rfl
end Go.Proofs.Ytaaaljpnhfmbpaa
