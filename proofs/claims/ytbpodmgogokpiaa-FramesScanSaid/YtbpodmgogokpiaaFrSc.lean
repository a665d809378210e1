/- The walk of the law FramesScan: it returns true at every input. Conditions: none. -/
import Derived.Test.YtbpodmgogokpiaaFrSa
import Derived.Test.YtbpodmgogokpiaaFrSb
import Derived.Test.YtbpodmgogokpiaaFrZ
namespace Go.Proofs.Ytbpodmgogokpiaa
open Go.RowKit
set_option linter.unusedVariables false

set_option maxHeartbeats 8000000 in
set_option maxRecDepth 100000 in
theorem framesScan_any (A : Option Addr) (n c : Nat) (b : List UInt8) (w : World) (hr : Reads w w.heap.size 1 A n (bvs b)) (hc : n ≤ c) (hcm : c ≤ maxLen) :
    Calls Try.prog 5 #[.slice A n c] w fun e w' => e = .returned (.bool true) ∧ Below w.heap.size w w' := by
  have HL := hide hr.blen
  by_cases h3 : 3000 < n
  · have hI : (3000 : Int) < (n : Int) := by omega
    go_enter Try.func5, Try.ntmps5
    go_wp2_with (first
      | (go_at_call 11; refine (works_any _).mono ?_; rintro e w1 ⟨rfl, hb1⟩)
      | fail)
    go_ret
    exact ⟨rfl, hb1⟩
  · have hI : ¬ (3000 : Int) < (n : Int) := by omega
    obtain ⟨S, hS⟩ : ∃ S : ByteArray, ⟨b.toArray⟩ = S := ⟨_, rfl⟩
    have HS := hide hS
    clear hS
    have HTK : Hid ((b ++ [77]).take n = b) := by show _ = _; rw [← HL.out, List.take_left']; rfl
    have H77 : Hid ((((b ++ [77]).getD n 0).toNat : Int) = 77) := by
      show _ = _
      rw [← HL.out, List.getD_eq_getElem?_getD, List.getElem?_concat_length]
      rfl
    have hown0 : (w.alloc (.cells #[] 5)).ownsRow w.heap.size 5 1 (.slice (some ⟨w.heap.size, 0, none⟩) 0 0) 0 [] := World.ownsRow_made w #[] 0 (Nat.le_refl _) (by decide) rfl
    have hr0 := hr.alloc (Nat.le_refl _) (.cells #[] 5)
    have hb0 : Below w.heap.size w (w.alloc (.cells #[] 5)) := (Below.refl _ w).alloc (Nat.le_refl _) _
    have hb3000 : b.length ≤ 3000 := by rw [HL.out]; omega
    have HSM : Hid (∀ l ∈ (scanF b).1, l.length ≤ 200000) := fun l h => by have := (few_facts (scan_small hb3000 h)).1; omega
    have HSN := hide (scan_num hb3000)
    have HKB := hide (scan_back b.length b (Nat.le_refl _)).2
    have HSC := hide (fun (A : Option Addr) (c : Nat) (w7 : World) (h : Reads w7 w7.heap.size 1 A n (bvs b)) (hc : n ≤ c) (hcm : c ≤ maxLen) => scan_any A n c b w7 h hc hcm (by omega))
    have HRC := hide (fun (A : Option Addr) (c : Nat) (w7 : World) (h : Reads w7 w7.heap.size 1 A n (bvs b)) (hc : n ≤ c) (hcm : c ≤ maxLen) => rscan_any A n c b w7 h hc hcm (by omega))
    generalize (scanF b).1 = M at *
    generalize (scanF b).2 = k at *
    have T1 := hide True.intro
    clear hb3000
    go_enter Try.func5, Try.ntmps5
    go_wp2_with (first
      | (refine wpList_append (o := ⟨some 18, _, _, _, _, _⟩) (by rfl) (.tmp 16) (.tmp 17) 25 (by rfl) u8_ok Try.underlying25 hown0 (by rfl) hr0 (by rfl) (bvs_one _) (by unfold maxLen; omega) (by omega) (by simp) ?_
         intro v1 w1 hown1 hb1 _ _
         rw [Nat.zero_add, List.nil_append] at hown1
         have hbw1 := hb0.trans hb1
         have hone := Reads.one_new w1 (.int .u8 77) 5)
      | (refine wpList_append (o := ⟨some 20, _, _, _, _, _⟩) (by rfl) (.tmp 18) (.tmp 19) 25 (by rfl) u8_ok Try.underlying25 (hown1.alloc _) (by rfl) hone (by rfl) (bvs_one [77]) (by unfold maxLen; omega) (by omega) (by have := hbw1.size; simp; omega) ?_
         intro v2 w2 hown2 hb2 _ _
         have hbw2 : Below w.heap.size w w2 := (hbw1.alloc hbw1.size _).trans hb2
         obtain ⟨g, cg, rfl, hcg1, hcg2, hg1, hg2⟩ := own_form hown2 (by omega)
         have hown2' : w2.ownsRow w.heap.size 5 1 (.slice (some ⟨g, 0, none⟩) (n + 1) cg) (n + 1) (bvs (b ++ [77])) := by rw [bvs_append]; exact hown2
         have hrm := (Reads.of_own hown2').front (m := n) (by omega)
         rw [HTK.out] at hrm
         obtain ⟨b', o', e1, _, hcs⟩ := (Reads.of_own hown2').byte (k := n) (by omega)
         obtain ⟨rfl, rfl⟩ : g = b' ∧ 0 = o' := by simpa using e1
         rw [H77.out] at hcs
         clear e1 hown2
         have hncgN : n ≤ cg := by omega
         have hncg : (n : Int) ≤ (cg : Int) := by omega
         have hn1cg : (n : Int) + 1 ≤ (cg : Int) := by omega)
      | (go_at_call 19
         have _t := T1
         go_must (
         refine (HSC.out _ cg w2 hrm hncgN hcg2).mono ?_
         rintro e w3 ⟨v3, ps, rfl, hps, hlo3, hb3⟩
         obtain ⟨A3, c3, rfl, hc31, hc32⟩ := own_slice hlo3.1
         have hbw3 := hbw2.trans (hb3.mono hbw2.size)
         have hrm3 := (hrm.below hb3).more hb3.size
         have hcs3 := (hb3.cell (p := ⟨g, 0 + n, none⟩) hg2).trans hcs
         have hg3 : g < w3.heap.size := Nat.lt_of_lt_of_le hg2 hb3.size
         clear T1 _t))
      | (go_at_call 19
         go_must (
         refine (HSC.out _ cg w3 hrm3 hncgN hcg2).mono ?_
         rintro e w4 ⟨v4, qs, rfl, hqs, hlo4, hb4⟩
         obtain ⟨A4, c4, rfl, hc41, hc42⟩ := own_slice hlo4.1
         have hbw4 := hbw3.trans (hb4.mono hbw3.size)
         have hrm4 := (hrm3.below hb4).more hb4.size
         have hcs4 := (hb4.cell (p := ⟨g, 0 + n, none⟩) hg3).trans hcs3
         have hg4 : g < w4.heap.size := Nat.lt_of_lt_of_le hg3 hb4.size
         have hlo34 := hlo3.below hb4
         have hr4 := (hr.below hbw4).more hbw4.size))
      | (go_at_call 20
         go_must (
         refine (HRC.out A c w4 hr4 hc hcm).mono ?_
         rintro e w5 ⟨v5, rs, rfl, hrs, hlo5, hb5⟩
         have hbw5 := hbw4.trans (hb5.mono hbw4.size)
         have hrm5 := (hrm4.below hb5).more hb5.size
         have hcs5 := (hb5.cell (p := ⟨g, 0 + n, none⟩) hg4).trans hcs4
         have hg5 : g < w5.heap.size := Nat.lt_of_lt_of_le hg4 hb5.size
         have hlo35 := hlo34.below hb5
         have hlo45 := hlo4.below hb5
         have hr5 := (hr4.below hb5).more hb5.size
         obtain ⟨A3', c3', e3, _, _, hR3⟩ := hlo35.rows2
         obtain ⟨A5, c5, rfl, hc51, hc52, hR5⟩ := hlo5.rows2
         obtain ⟨rfl, rfl⟩ : A3 = A3' ∧ c3 = c3' := by injection e3 with a1 a2 a3; exact ⟨a1, a3⟩
         rw [hps] at hR3
         rw [hrs] at hR5
         clear e3))
      | (go_at_call 21
         have _t := hR3
         go_must (
         refine (rsame_any A3 ps.length c3 A5 rs.length c5 (lvs ps) (lvs rs) M M w5 hR3 hR5 (by have := HSN.out; have := hR3.num; omega) HSM.out).mono ?_
         rintro e w6 ⟨rfl, m6, hw6⟩
         rw [show decide (M = M) = true from by simp]
         have hb6 : Below w5.heap.size w5 w6 := by rw [hw6]; exact below_drewN (Below.refl _ _) _
         have hcs6 := (hb6.cell (p := ⟨g, 0 + n, none⟩) hg5).trans hcs5
         rw [Nat.zero_add] at hcs6
         have hbw6 := hbw5.trans (hb6.mono hbw5.size)
         have hcv1 := run_bytes_str (P := Try.prog) 25 9 5 Try.underlying25 Try.underlying5 Try.underlying9 (hrm5.below hb6) cg
         have hcv2 := run_bytes_str (P := Try.prog) 25 9 5 Try.underlying25 Try.underlying5 Try.underlying9 (hr5.below hb6) c
         rw [HS.out] at hcv1 hcv2
         clear hw6 hR3 hR5 _t))
      | fail)
    have hq7 : Shape w3 w6 := Shape.of_below ((hb4.trans (hb5.mono hb4.size)).trans (hb6.mono (Nat.le_trans hb4.size hb5.size)))
    have hroom : Hid (∀ p ∈ ps, Room w6 w.heap.size w3.heap.size p) := fun p hp => ((Room.of_own (hlo3.2 p hp)).base hbw2.size).shape hq7
    have hlo36 := hlo35.below hb6
    have hx6 := (hlo45.below hb6)
    have hk6 := hlo5.below hb6
    obtain ⟨gl, hgl⟩ := row_head hlo36.1
    have h36 : w3.heap.size ≤ w6.heap.size := Nat.le_trans hb4.size (Nat.le_trans hb5.size hb6.size)
    have hgl3 : 0 < ps.length → gl < w3.heap.size := fun h0 => by
      obtain ⟨gl', h'⟩ := row_head hlo3.1
      have e1 := (hgl h0).1
      have e2 := (h' h0).1
      rw [e1] at e2
      injection e2 with e2
      injection e2 with e2
      rw [e2]
      exact (h' h0).2.2.1
    have HGL := hide hgl
    have HGL3 := hide hgl3
    have hpn : ps.length ≤ 3000 := by rw [← List.length_map (f := fun x : SPart => x.l), hps]; exact HSN.out
    have HRM := hroom
    have HPN : Hid (∀ p ∈ ps, p.n ≤ 200000) := fun p hp => by
      have h1 : (svs p.l).length = p.n * 1 := (hlo3.2 p hp).1
      rw [svs_length] at h1
      have := HSM.out p.l (by rw [← hps]; exact List.mem_map_of_mem hp)
      omega
    clear hgl hgl3 hroom hlo3 hlo34 hlo35 hlo4 hlo45 hlo5 hlo36 hcv1 hcv2 hcs hcs3 hcs4 hcs5 hcs6 hrm hrm3 hrm4 hrm5 hr0 hr4 hr5 hq7 hown0 hown1 hown2' hone
    go_loopw [10, 11] (fun i x wr => ∃ q : Nat, i = .int .i64 q ∧ q ≤ ps.length ∧ Wr w w6 wr gl w3.heap.size q ps.length ps) (fun i _ _ => ps.length - (intOf i).toNat)
    case atStart =>
      refine ⟨0, rfl, Nat.zero_le _, ⟨fun j p _ hp => ?_, Shape.refl _, fun _ _ _ => rfl, hbw6, Nat.le_refl _⟩⟩
      have hj : j < ps.length := (List.getElem?_eq_some_iff.1 hp).1
      exact (HGL.out (by omega)).2.2.2.2 j _ (by unfold lvs; rw [List.getElem?_map, hp]; rfl)
    case round =>
      obtain ⟨q, rfl, hq, hw⟩ := hrel
      by_cases hqn : q < ps.length
      · have hqI : (q : Int) < (ps.length : Int) := by omega
        have hq0 : (0 : Int) ≤ (q : Int) := by omega
        obtain ⟨eA, hglB, hglN, ⟨hcs, hB⟩, _⟩ := HGL.out (by omega)
        have hgl3 := HGL3.out (by omega)
        subst eA
        obtain ⟨p, hp⟩ : ∃ p, ps[q]? = some p := ⟨ps[q], List.getElem?_eq_getElem hqn⟩
        have hrm := HRM.out p (List.mem_of_getElem? hp)
        have HPP := hide hp
        have hc1 := hw.head q p (Nat.le_refl _) hp
        have hwq : IntKind.i64.wrap ((q : Int) + 1) = (q : Int) + 1 := IntWalk.i64_in _ (by omega)
        clear hp
        have hpn2 := HPN.out p (List.mem_of_getElem? HPP.out)
        have hglB' : w.heap.size ≤ gl := Nat.le_trans hbw2.size hglB
        obtain ⟨pA, pn, pc, pl, pe⟩ := p
        dsimp only at hc1 hpn2
        go_wp2_with fail
        go_loopw [11] (fun x wq => ∃ j : Nat, x = .int .i64 j ∧ j ≤ pn ∧ Wr w w6 wq gl w3.heap.size q ps.length ps) (fun x _ => pn - (intOf x).toNat)
        case atStart => exact ⟨0, rfl, Nat.zero_le _, hw⟩
        case round =>
          obtain ⟨j, rfl, hj, hw2⟩ := hrel
          clear hc1 hw
          have hc2 : wr.cell? ⟨gl, q, none⟩ = some (.slice pA pn pc) := hw2.head q _ (Nat.le_refl _) HPP.out
          obtain ⟨hcs', hB', _⟩ := hw2.shape _ _ _ hB
          have hrm2 := hrm.shape hw2.shape
          by_cases hjn : j < pn
          · have hjI : (j : Int) < (pn : Int) := by omega
            have hj0 : (0 : Int) ≤ (j : Int) := by omega
            have hwj : IntKind.i64.wrap ((j : Int) + 1) = (j : Int) + 1 := IntWalk.i64_in _ (by omega)
            obtain ⟨hpnc, hpcm, ⟨_, h0, _⟩ | ⟨gp, pcs, eA, hgb, hgn, hkp, hsz⟩⟩ := hrm2
            · exact absurd h0 (by dsimp only; omega)
            · dsimp only at eA hsz hpnc
              subst eA
              have hne : gp ≠ gl := hkp.ne_ hB' (by decide)
              have hcu : wr.cell? ⟨gp, j, none⟩ = some (pcs[j]'(by omega)) := by rw [hkp.cell j]; exact Array.getElem?_eq_getElem (by omega)
              have hfu := hkp.frozen j
              go_wp2_with fail
              go_roundw
              case rel => exact ⟨j + 1, by simp, by omega, hw2.store hgb hgn hne j _⟩
              case measure => simp [intOf]; omega
          · have hjI : ¬ (j : Int) < (pn : Int) := by omega
            obtain ⟨xs, hxs⟩ := hrm2.own
            dsimp only at hxs
            have hrow : Hid (∀ r, (Value.slice pA pn pc).ownBlock = some r → r < w3.heap.size ∧ r ≠ gl) := fun r hr' => by
              obtain ⟨_, _, ⟨e0, _, _⟩ | ⟨gp, pcs, eA, hgb, hgn, hkp, hsz⟩⟩ := hrm2
              · dsimp only at e0; subst e0; cases hr'
              · dsimp only at eA
                subst eA
                have e2 : gp = r := by simpa [Value.ownBlock] using hr'
                subst e2
                exact ⟨hgn, hkp.ne_ hB' (by decide)⟩
            have hone := Reads.one_new wr (.string ⟨#[63]⟩) 9
            have hzs := hw2.below.size
            go_wp2_with (first
              | (refine wpList_append_shape (o := ⟨some 95, _, _, _, _, _⟩) (by rfl) (.tmp 93) (.tmp 94) 22 (by rfl) str_ok Try.underlying22 (hxs.alloc _) (by rfl) hone (by decide) (by rfl) (svs_one [⟨#[63]⟩]) (by unfold maxLen; omega) (by omega) (by simp; omega) ?_
                 intro v7 w7 hown7 hb7 hg7 hs7
                 have hk7 := (hB'.alloc (.cells #[.string ⟨#[63]⟩] 9)).grown hg7 (fun e => (hrow.out gl e.symm).2 rfl)
                 have hc7 : w7.cell? ⟨gl, q, none⟩ = some (.slice pA pn pc) := by rw [hk7.cell, ← hB'.cell]; exact hc2
                 have hf7 := hk7.frozen q
                 obtain ⟨A7, c7, rfl, hc71, hc72⟩ := own_slice hown7)
              | fail)
            go_roundw
            case rel => exact ⟨q + 1, by simp, by omega, hw2.app hb7 hg7 hrow.out hs7 hB' hglB' hgl3 h36 _⟩
            case measure => simp [intOf]; omega
      · have hqI : ¬ (q : Int) < (ps.length : Int) := by omega
        obtain ⟨A4', c4', e4, _, _, hR4⟩ := (hx6.kept hw.kept).rows2
        obtain ⟨rfl, rfl⟩ : A4 = A4' ∧ c4 = c4' := by injection e4 with a1 a2 a3; exact ⟨a1, a3⟩
        obtain ⟨A5', c5', e5, _, _, hR5⟩ := (hk6.kept (fun k h1 h2 => hw.kept k (Nat.le_trans hb4.size h1) h2)).rows2
        obtain ⟨rfl, rfl⟩ : A5 = A5' ∧ c5 = c5' := by injection e5 with a1 a2 a3; exact ⟨a1, a3⟩
        rw [hqs] at hR4
        rw [hrs] at hR5
        have hbw := hw.below
        clear e4 e5
        go_wp2_with (first
          | (go_at_call 21
             go_must (
             refine (rsame_any A4 qs.length c4 A5 rs.length c5 (lvs qs) (lvs rs) M M wr hR4 hR5 (by have := HSN.out; have := hR4.num; omega) HSM.out).mono ?_
             rintro e w8 ⟨rfl, m8, hw8⟩
             rw [show decide (M = M) = true from by simp]
             have hb8 : Below w.heap.size w w8 := by rw [hw8]; exact below_drewN hbw _
             clear hw8))
          | (go_at_call 11; refine (works_any _).mono ?_; rintro e w9 ⟨rfl, hb9⟩)
          | fail)
        go_ret
        exact ⟨ret_bool rfl, hb8.trans (hb9.mono hb8.size)⟩
end Go.Proofs.Ytbpodmgogokpiaa
