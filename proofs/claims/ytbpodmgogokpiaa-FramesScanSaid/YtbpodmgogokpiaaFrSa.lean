/- The walk of Scan (package taborref03). Conditions: those of the theorem. -/
import Derived.Test.YtbpodmgogokpiaaFrJ
import Derived.Test.YtbpodmgogokpiaaFrL
namespace Go.Proofs.Ytbpodmgogokpiaa
open Go.RowKit
set_option linter.unusedVariables false

/-- one more list behind -/
theorem LOwn.snoc {w w' : World} {B : Nat} {v v' : Value} {ps : List SPart} {x : SPart} (h : LOwn w B v ps) (hx : RxS B x w) (hg : w.grownBy w' v.ownBlock) (ho : w'.ownsRow B 22 1 v' (ps.length + 1) (lvs ps ++ [.slice x.A x.n x.c])) : LOwn w' B v' (ps ++ [x]) := by
  refine ⟨by rw [List.length_append, lvs_append]; exact ho, fun p hp => ?_⟩
  have hpw : RxS B p w := by
    rcases List.mem_append.1 hp with hp | hp
    · exact h.2 p hp
    · rw [List.mem_singleton.1 hp]; exact hx
  exact own_grownFar hpw hg (fun j hj => own_apart hpw h.1 (by decide) j hj)

set_option maxHeartbeats 4000000 in
theorem rscan_any (A : Option Addr) (n c : Nat) (b : List UInt8) (w : World) (hr : Reads w w.heap.size 1 A n (bvs b)) (hc : n ≤ c) (hcm : c ≤ maxLen) (hn : n ≤ 10000000) :
    Calls Try.prog 20 #[.slice A n c] w fun e w' => ∃ v ps, e = .returned (.tuple #[v, .int .i64 (scanF b).2]) ∧ ps.map (·.l) = (scanF b).1 ∧ LOwn w' w.heap.size v ps ∧ Below w.heap.size w w' := by
  have HL := hide hr.blen
  go_enter Try.func20, Try.ntmps20
  go_wp2_with fail
  go_loopw [4, 5, 6, 7, 8] (fun v i x y z wr => ∃ (p : Nat) (pre : List SPart), i = .int .i64 p ∧ p ≤ n ∧ pre.length ≤ p ∧ (scanF b).1 = pre.map (·.l) ++ (scanF (b.drop p)).1 ∧ (scanF b).2 = p + (scanF (b.drop p)).2 ∧ LOwn wr w.heap.size v pre ∧ Below w.heap.size w wr)
    (fun _ i _ _ _ _ => n - (intOf i).toNat)
  case atStart => exact ⟨0, [], rfl, by omega, by simp, by simp, by simp, ⟨World.ownsRow_nil _ _ _ _, fun p hp => by cases hp⟩, Below.refl _ _⟩
  case round =>
    obtain ⟨p, pre, rfl, hp, hpl, hs1, hs2, hlo, hbw⟩ := hrel
    have HS1 := hide hs1
    have HS2 := hide hs2
    clear hs1 hs2
    obtain ⟨Av, cv, rfl, hcv1, hcv2⟩ := own_slice hlo.1
    by_cases hpn : p < n
    · have hpI : (p : Int) < (n : Int) := by omega
      have hp0 : (0 : Int) ≤ (p : Int) := by omega
      have hpnI : (p : Int) ≤ (n : Int) := by omega
      have hcp : ¬ c = p := by omega
      have hrb := ((hr.below hbw).more hbw.size).behind' (k := p) (c := c) hpn hc
      have HR := hide (rread_any (A.map (·.add p)) (n - p) (c - p) (b.drop p) wr hrb (by omega) (by omega) (by omega))
      cases hx : readF (b.drop p) with
      | inl e =>
        have hee := readF_err hx
        have HSN := hide (scanF_no hx)
        have HX := hide hx
        clear hx
        have hne1 : ((120 : Int) != 0) = true := by decide
        have hne2 : ((121 : Int) != 0) = true := by decide
        rcases hee with rfl | rfl
        all_goals
          go_wp2_with (first
            | (go_at_call 18
               go_must (
               refine HR.out.mono ?_
               rintro e w2 ⟨hpost, hb2⟩
               unfold RReadPost at hpost
               rw [HX.out] at hpost
               dsimp only at hpost
               subst hpost
               have hlo2 := hlo.below hb2
               have hbw2 := hbw.trans (hb2.mono hbw.size)))
            | fail)
          go_ret2
          refine ⟨_, pre, ?_, ?_, hlo2, hbw2⟩
          · rw [HS2.out, HSN.out]; rfl
          · rw [HS1.out, HSN.out]; simp
      | inr q =>
        obtain ⟨l, k⟩ := q
        have hk := readF_le hx
        rw [List.length_drop, HL.out] at hk
        have hwr : IntKind.i64.wrap ((p : Int) + (k : Int)) = (p : Int) + (k : Int) := IntWalk.i64_in _ (by omega)
        have HSY := hide (scanF_yes hx)
        have HX := hide hx
        clear hx
        go_wp2_with (first
          | (go_at_call 18
             go_must (
             refine HR.out.mono ?_
             rintro e w2 ⟨hpost, hb2⟩
             unfold RReadPost at hpost
             rw [HX.out] at hpost
             obtain ⟨v2, rfl, ho2⟩ := hpost
             obtain ⟨A2, c2, rfl, hc21, hc22⟩ := own_slice ho2
             have hlo2 := hlo.below hb2
             have hbw2 := hbw.trans (hb2.mono hbw.size)
             have hb3 : Below w2.heap.size w2 (w2.alloc (.cells #[.slice A2 l.length c2] 22)) := (Below.refl _ _).alloc (Nat.le_refl _) _
             have hbw3 := hbw2.trans (hb3.mono hbw2.size)
             have hlo3 := hlo2.below hb3
             have hx3 : RxS w.heap.size ⟨A2, l.length, c2, l, 0⟩ (w2.alloc (.cells #[.slice A2 l.length c2] 22)) := own_base (own_below ho2 hb3) hbw.size
             have hone := Reads.one_new w2 (.slice A2 l.length c2) 22))
          | (refine wpList_append (o := ⟨some 26, _, _, _, _, _⟩) rfl (.tmp 23) (.tmp 25) 39 rfl strs_ok Try.underlying39 (hlo3.1) rfl hone rfl (lvs_one [⟨A2, l.length, c2, l, 0⟩]) (by unfold maxLen; omega) (by omega) (by simp; have := hbw2.size; omega) ?_
             intro v5 w5 hown5 hb5 hg5 _
             have hlo5 := hlo3.snoc (x := ⟨A2, l.length, c2, l, 0⟩) hx3 hg5 hown5
             have hbw5 := hbw3.trans hb5)
          | fail)
        go_roundw
        case rel =>
          refine ⟨p + k, pre ++ [⟨A2, l.length, c2, l, 0⟩], by simp, by omega, by rw [List.length_append]; simp; omega, ?_, ?_, hlo5, hbw5⟩
          · rw [HS1.out, HSY.out, List.drop_drop]; simp
          · rw [HS2.out, HSY.out, List.drop_drop]; simp; omega
        case measure => simp [intOf]; omega
    · obtain rfl : p = n := by omega
      have hpI : ¬ (p : Int) < (p : Int) := by omega
      go_wp2_with fail
      go_ret2
      refine ⟨_, ?_, pre, ?_, hlo, hbw⟩
      · rw [HS2.out, List.drop_of_length_le (by rw [HL.out]; exact Nat.le_refl _), scanF_nil]; rfl
      · rw [HS1.out, List.drop_of_length_le (by rw [HL.out]; exact Nat.le_refl _), scanF_nil]; simp
end Go.Proofs.Ytbpodmgogokpiaa
