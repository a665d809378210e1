/- The walk of the law DiskSteps (package taborlaw02). Conditions: those of the theorem. (Printed by wip/gen_dkst.py.) -/
import Derived.Test.YtaaaljpnhfmbpaaDkFit
import Derived.Test.YtaaaljpnhfmbpaaDkN
import Derived.Deep.RegionHeld3
namespace Go.Proofs.Ytaaaljpnhfmbpaa
open Go.RowKit Go.Shelf
set_option linter.unusedVariables false
set_option linter.unusedSimpArgs false

set_option maxHeartbeats 16000000 in
set_option maxRecDepth 100000 in
theorem diskSteps_any (A : Option Addr) (n c : Nat) (l : List AF) (what : Int) (name tn : ByteArray) (M : Option Addr) (m mc : Nat) (bs : List UInt8) (z : Int) (w : World) (hr : Reads w w.heap.size 3 A n (afs l)) (hn : n ≤ maxLen) (hs : ∀ x ∈ l, x.name.size ≤ 140737488351232 ∧ x.b.size ≤ 140737488351232) (hs1 : name.size ≤ 140737488351232) (hs2 : tn.size ≤ 140737488351232) (hM : Reads w w.heap.size 1 M m (bvs bs)) :
    Calls Try.prog 6 #[.slice A n c, .agg (rstepV what name tn M m mc z)] w fun e w' => e = .returned (.bool true) ∧ Below w.heap.size w w' := by
  have hsb := Blk.new w 48 (rstepV what name tn M m mc z)
  have hb0 : Below w.heap.size w (w.alloc (.cells (rstepV what name tn M m mc z) 48)) := (Below.refl _ w).alloc (Nat.le_refl _) _
  have hr0 := hr.below hb0
  have hM0 := hM.below hb0
  have HL := hide hr.alen
  go_enter Try.func6, Try.ntmps6
  go_upto_region 1 with (fail)
  generalize w.alloc (.cells (rstepV what name tn M m mc z) 48) = w0 at *
  have HF := hide (few_any (c := c) w0 (hr0.more hb0.size) hn hs)
  clear hr hM
  cases hd3 : decide (wsum l ≤ 3000) with
  | false =>
    rw [hd3] at HF
    go_wp2_with (first
      | (go_at_call 13; go_must (refine HF.out.mono ?_; rintro e w1 ⟨rfl, hb1⟩))
      | (go_at_call 12; go_must (refine (works_any _).mono ?_; rintro e w2 ⟨rfl, hb2⟩))
      | fail)
    go_ret
    exact ⟨rfl, hb0.trans ((hb1.trans (hb2.mono hb1.size)).mono hb0.size)⟩
  | true =>
    rw [hd3] at HF
    have hw1 := of_decide_eq_true hd3
    have hn3 : n ≤ 3000 := by have := wsum_len l; rw [HL.out] at this; omega
    have HSm := hide (fun w => small_any what name tn M m mc z w)
    cases hsm : (decide (name.size ≤ 200) && decide (tn.size ≤ 200) && decide (m ≤ 1000)) with
    | false =>
      rw [hsm] at HSm
      clear hd3 hw1
      go_wp2_with (first
        | (go_at_call 13; go_must (refine HF.out.mono ?_; rintro e w1 ⟨rfl, hb1⟩; have hs1b := hsb.below hb1 hsb.lt; have c0 : w1.cell? ⟨w.heap.size, 0, none⟩ = some (.int .i64 what) := hs1b.cell 0; have c1 : w1.cell? ⟨w.heap.size, 1, none⟩ = some (.string name) := hs1b.cell 1; have c2 : w1.cell? ⟨w.heap.size, 2, none⟩ = some (.string tn) := hs1b.cell 2; have c3 : w1.cell? ⟨w.heap.size, 3, none⟩ = some (.slice M m mc) := hs1b.cell 3; have c4 : w1.cell? ⟨w.heap.size, 4, none⟩ = some (.int .i64 z) := hs1b.cell 4))
        | (go_at_call 25; go_must (refine (HSm.out _).mono ?_; rintro e w2 ⟨rfl, hb2⟩))
        | (go_at_call 12; go_must (refine (works_any _).mono ?_; rintro e w3 ⟨rfl, hb3⟩))
        | fail)
      go_ret
      exact ⟨rfl, hb0.trans ((hb1.trans ((hb2.trans (hb3.mono hb2.size)).mono hb1.size)).mono hb0.size)⟩
    | true =>
      rw [hsm] at HSm
      have hm1 : m ≤ 1000 := by
        simp only [Bool.and_eq_true, decide_eq_true_eq] at hsm
        exact hsm.2
      clear hd3 hw1 hsm
      by_cases hw0 : what < 0
      · have d0 : decide (what < 0) = true := decide_eq_true hw0
        clear hw0
        go_wp2_with (first
          | (go_at_call 13; go_must (refine HF.out.mono ?_; rintro e w1 ⟨rfl, hb1⟩; have hs1b := hsb.below hb1 hsb.lt; have c0 : w1.cell? ⟨w.heap.size, 0, none⟩ = some (.int .i64 what) := hs1b.cell 0; have c1 : w1.cell? ⟨w.heap.size, 1, none⟩ = some (.string name) := hs1b.cell 1; have c2 : w1.cell? ⟨w.heap.size, 2, none⟩ = some (.string tn) := hs1b.cell 2; have c3 : w1.cell? ⟨w.heap.size, 3, none⟩ = some (.slice M m mc) := hs1b.cell 3; have c4 : w1.cell? ⟨w.heap.size, 4, none⟩ = some (.int .i64 z) := hs1b.cell 4))
          | (go_at_call 25; go_must (refine (HSm.out _).mono ?_; rintro e w2 ⟨rfl, hb2⟩; have hs2b := hs1b.below hb2 hs1b.lt; have e0 : w2.cell? ⟨w.heap.size, 0, none⟩ = some (.int .i64 what) := hs2b.cell 0; have e1 : w2.cell? ⟨w.heap.size, 1, none⟩ = some (.string name) := hs2b.cell 1; have e2 : w2.cell? ⟨w.heap.size, 2, none⟩ = some (.string tn) := hs2b.cell 2; have e3 : w2.cell? ⟨w.heap.size, 3, none⟩ = some (.slice M m mc) := hs2b.cell 3; have e4 : w2.cell? ⟨w.heap.size, 4, none⟩ = some (.int .i64 z) := hs2b.cell 4; clear c0 c1 c2 c3 c4))
          | (go_at_call 12; go_must (refine (works_any _).mono ?_; rintro e w4 ⟨rfl, hb4⟩))
          | fail)
        go_ret
        exact ⟨rfl, hb0.trans ((hb1.trans ((hb2.trans (hb4.mono hb2.size)).mono hb1.size)).mono hb0.size)⟩
      · have d0 : decide (what < 0) = false := decide_eq_false hw0
        by_cases hw4 : 4 < what
        · have d4 : decide ((4 : Int) < what) = true := decide_eq_true hw4
          clear hw0 hw4
          go_wp2_with (first
            | (go_at_call 13; go_must (refine HF.out.mono ?_; rintro e w1 ⟨rfl, hb1⟩; have hs1b := hsb.below hb1 hsb.lt; have c0 : w1.cell? ⟨w.heap.size, 0, none⟩ = some (.int .i64 what) := hs1b.cell 0; have c1 : w1.cell? ⟨w.heap.size, 1, none⟩ = some (.string name) := hs1b.cell 1; have c2 : w1.cell? ⟨w.heap.size, 2, none⟩ = some (.string tn) := hs1b.cell 2; have c3 : w1.cell? ⟨w.heap.size, 3, none⟩ = some (.slice M m mc) := hs1b.cell 3; have c4 : w1.cell? ⟨w.heap.size, 4, none⟩ = some (.int .i64 z) := hs1b.cell 4))
            | (go_at_call 25; go_must (refine (HSm.out _).mono ?_; rintro e w2 ⟨rfl, hb2⟩; have hs2b := hs1b.below hb2 hs1b.lt; have e0 : w2.cell? ⟨w.heap.size, 0, none⟩ = some (.int .i64 what) := hs2b.cell 0; have e1 : w2.cell? ⟨w.heap.size, 1, none⟩ = some (.string name) := hs2b.cell 1; have e2 : w2.cell? ⟨w.heap.size, 2, none⟩ = some (.string tn) := hs2b.cell 2; have e3 : w2.cell? ⟨w.heap.size, 3, none⟩ = some (.slice M m mc) := hs2b.cell 3; have e4 : w2.cell? ⟨w.heap.size, 4, none⟩ = some (.int .i64 z) := hs2b.cell 4; clear c0 c1 c2 c3 c4))
            | (go_at_call 12; go_must (refine (works_any _).mono ?_; rintro e w4 ⟨rfl, hb4⟩))
            | fail)
          go_ret
          exact ⟨rfl, hb0.trans ((hb1.trans ((hb2.trans (hb4.mono hb2.size)).mono hb1.size)).mono hb0.size)⟩
        · have d4 : decide ((4 : Int) < what) = false := decide_eq_false hw4
          obtain ⟨wh, rfl⟩ : ∃ wh : Nat, what = wh := ⟨what.toNat, by omega⟩
          have hwh : wh ≤ 4 := by omega
          have HCK0 := fun (w : World) (hr : Reads w w.heap.size 3 A n (afs l)) => rcheck_any (c := c) w hr (by omega) hs
          clear hw0 hw4
          by_cases hck : chkF l = 0
          · rw [hck] at HCK0
            have HCK := hide HCK0
            have HC := hide hck
            clear HCK0 hck
            go_upto_region 3 with (first
              | (go_at_call 13; go_must (refine HF.out.mono ?_; rintro e w1 ⟨rfl, hb1⟩; have hs1b := hsb.below hb1 hsb.lt; have c0 : w1.cell? ⟨w.heap.size, 0, none⟩ = some (.int .i64 wh) := hs1b.cell 0; have c1 : w1.cell? ⟨w.heap.size, 1, none⟩ = some (.string name) := hs1b.cell 1; have c2 : w1.cell? ⟨w.heap.size, 2, none⟩ = some (.string tn) := hs1b.cell 2; have c3 : w1.cell? ⟨w.heap.size, 3, none⟩ = some (.slice M m mc) := hs1b.cell 3; have c4 : w1.cell? ⟨w.heap.size, 4, none⟩ = some (.int .i64 z) := hs1b.cell 4))
              | (go_at_call 25; go_must (refine (HSm.out _).mono ?_; rintro e w2 ⟨rfl, hb2⟩; have hs2b := hs1b.below hb2 hs1b.lt; have e0 : w2.cell? ⟨w.heap.size, 0, none⟩ = some (.int .i64 wh) := hs2b.cell 0; have e1 : w2.cell? ⟨w.heap.size, 1, none⟩ = some (.string name) := hs2b.cell 1; have e2 : w2.cell? ⟨w.heap.size, 2, none⟩ = some (.string tn) := hs2b.cell 2; have e3 : w2.cell? ⟨w.heap.size, 3, none⟩ = some (.slice M m mc) := hs2b.cell 3; have e4 : w2.cell? ⟨w.heap.size, 4, none⟩ = some (.int .i64 z) := hs2b.cell 4; clear c0 c1 c2 c3 c4))
              | (go_at_call 15; go_must (refine (HCK.out w2 ((((hr0.below (hb1.mono hb0.size)).below (hb2.mono (Nat.le_trans hb0.size hb1.size)))).more (Nat.le_trans (Nat.le_trans hb0.size hb1.size) hb2.size))).mono ?_; rintro e w3 ⟨rfl, hb3⟩))
              | (go_at_call 12; go_must (refine (works_any _).mono ?_; rintro e w4 ⟨rfl, hb4⟩))
              | fail)
            obtain ⟨_, _, hrise, hoks⟩ := chk_ok l _ _ HC.out
            have HO := hide hoks
            have HRi := hide hrise
            have hbw3 : Below w.heap.size w w3 := hb0.trans ((hb1.trans ((hb2.trans (hb3.mono hb2.size)).mono hb1.size)).mono hb0.size)
            have hb03 : Below w0.heap.size w0 w3 := hb1.trans ((hb2.trans (hb3.mono hb2.size)).mono hb1.size)
            have hr3 := hr0.below (hb03.mono hb0.size)
            have hM3 := hM0.below (hb03.mono hb0.size)
            have hs3 := hsb.below hb03 hsb.lt
            have hz3 := hbw3.size
            obtain ⟨w4, hw4⟩ : ∃ w4, w4 = w3 := ⟨_, rfl⟩
            rw [← hw4] at hbw3 hr3 hM3 hs3 hz3
            simp only [← hw4]
            have HW4 := hide hw4
            clear hw4 hrise hoks e0 e1 e2 e3 e4 hs1b hs2b hb0 hb1 hb2 hb3 hb03 hr0 hM0 hsb HF HSm HCK
            have HFr := hide (from_any (c := c) w4 (hr3.more hz3) (by omega) hs)
            go_upto_region 4 with (first
              | (go_at_call 14
                 go_must (
                 refine HFr.out.mono ?_
                 rintro e w5 ⟨hor, hb5⟩
                 have hor2 : ∃ g r fs, e = .returned (.tuple #[.pointer (some ⟨g, 0, none⟩), .int .i64 0]) ∧ DK w4.heap.size w5 g r fs 0 false 0 ∧ fs.map fdat = l.map adat := by
                   rcases hor with ⟨h0, _⟩ | ⟨_, h⟩
                   · exact absurd HC.out h0
                   · exact h
                 obtain ⟨g, r, fs, rfl, hdk, hfs⟩ := hor2))
              | fail)
            obtain ⟨d0', hd0'⟩ : ∃ d0 : DS, d0 = ⟨l.map adat, 0, false, 0⟩ := ⟨_, rfl⟩
            have hd5 : DKd w4.heap.size w5 g r ⟨l.map adat, 0, false, 0⟩ := ⟨fs, hdk, by rw [hfs], HRi.out⟩
            have hK0 := fit_of HO.out hs (K := 3000) (by rw [HL.out]; exact hn3)
            have hflS : ∀ x ∈ (⟨l.map adat, 0, false, 0⟩ : DS).l, x.2.1.length ≤ 1048576 ∧ x.2.2 ≤ 1048576 := fun x hx => (hK0.all x hx).2
            have hFit1 : Fit (stepD ⟨l.map adat, 0, false, 0⟩ name (cmdOf wh tn bs z)).l := (FitK.step (d := ⟨l.map adat, 0, false, 0⟩) hK0 hs1 (fun t e => by rw [cmd_ren e]; exact hs2)).fit (by decide)
            have hbw5 : Below w.heap.size w w5 := hbw3.trans (hb5.mono hz3)
            have hdv5 : Reads w5 w.heap.size 3 A n (dvs (l.map adat)) := by
              rw [← afs_back HO.out]
              exact hr3.below (hb5.mono hz3)
            have hM5 := hM3.below (hb5.mono hz3)
            have hs5 := hs3.below hb5 hs3.lt
            have hz5 := hbw5.size
            have hz4 := hz3
            have hz45 := hb5.size
            clear hor hdk hfs HFr hbw3 hr3 hM3 hs3 hb5 hz3 d0 d4 hd0' hK0
            have hS4 : ∀ w', Below w5.heap.size w5 w' → (fun w' => w'.cell? ⟨w.heap.size, 0, none⟩ = some (.int .i64 wh) ∧ w'.cell? ⟨w.heap.size, 1, none⟩ = some (.string name) ∧ w'.cell? ⟨w.heap.size, 2, none⟩ = some (.string tn) ∧ w'.cell? ⟨w.heap.size, 3, none⟩ = some (.slice M m mc) ∧ w'.cell? ⟨w.heap.size, 4, none⟩ = some (.int .i64 z)) w' := fun w' hb => by
              have h := hs5.below hb hs5.lt
              exact ⟨h.cell 0, h.cell 1, h.cell 2, h.cell 3, h.cell 4⟩
            have hbk0 : Below w5.heap.size w5 w5.drew := (Below.refl _ w5).drew
            refine wp_region_held_drew (S := (fun w' => w'.cell? ⟨w.heap.size, 0, none⟩ = some (.int .i64 wh) ∧ w'.cell? ⟨w.heap.size, 1, none⟩ = some (.string name) ∧ w'.cell? ⟨w.heap.size, 2, none⟩ = some (.string tn) ∧ w'.cell? ⟨w.heap.size, 3, none⟩ = some (.slice M m mc) ∧ w'.cell? ⟨w.heap.size, 4, none⟩ = some (.int .i64 z))) (by kernel_rfl) ?_ (fun hHeld => ?_)
            · exact hS4 _ ((Below.refl _ w5).drew)
            refine wpAnyH_take (i := 0) (v := ?_) rfl (by kernel_rfl) (by kernel_rfl) (by kernel_rfl) (fun _ _ _ h => h) (Or.inl ⟨by rfl, ?hy⟩) (by assumption) ?_
            case hy => (intro w hSw; (try dsimp only at hSw); go_simp; all_goals with_reducible rfl)
            try simp only [Act.put, List.setIfInBounds_toArray, List.set_cons_zero, List.set_cons_succ]
            refine wpAnyH_take (i := 2) (v := ?_) rfl (by kernel_rfl) (by kernel_rfl) (by kernel_rfl) (fun _ _ _ h => h) (Or.inl ⟨by rfl, ?hy⟩) (by assumption) ?_
            case hy => (intro w hSw; (try dsimp only at hSw); go_simp; all_goals with_reducible rfl)
            try simp only [Act.put, List.setIfInBounds_toArray, List.set_cons_zero, List.set_cons_succ]
            refine wpAnyH_ready (rs := [1, 7]) (by kernel_rfl) (by simp) (AllReadyH.cons rfl (fun K hK => ?_) (AllReadyH.cons rfl (fun K hK => ?_) AllReadyH.nil))
            · go_simp
              (go_at_call 27; go_must (refine (rnew_any _).mono ?_; rintro e wN1 ⟨rfl, hbN1⟩))
              have hbk1 := hbk0.trans (hbN1.mono hbk0.size)
              refine hK.out _ _ ?_ (fun hHeld => ?_)
              · exact hS4 _ hbk1
              clear hK K
              try simp only [Act.put, List.setIfInBounds_toArray, List.set_cons_zero, List.set_cons_succ]
              refine wpAnyH_ready (rs := [3, 7]) (by kernel_rfl) (by simp) (AllReadyH.cons rfl (fun K hK => ?_) (AllReadyH.cons rfl (fun K hK => ?_) AllReadyH.nil))
              · go_simp
                (go_at_call 26; go_must (refine (rdo_any wh hwh (d := ⟨l.map adat, 0, false, 0⟩) (c := c) (mc := mc) (z := z) (name := name) (tn := tn) (bs := bs) _ ((hdv5.below (hbk1.mono hz5)).more (Nat.le_trans hz5 hbk1.size)) (by omega) hflS hs1 hs2 ((hM5.below (hbk1.mono hz5)).more (Nat.le_trans hz5 hbk1.size)) (by omega) (Int.le_refl 0) (by show (0 : Int) ≤ 1000000000; decide) (Int.le_refl 0) (by show (0 : Int) ≤ 9223372036854775807; decide)).mono ?_; rintro e wD2 ⟨⟨A6, n6, c6, rfl, hro2⟩, hbD2⟩))
                have hRLa2 : RL w.heap.size wN1 A n c (l.map adat) := .inl (hdv5.below (hbk1.mono hz5))
                have hRL2 := hRLa2.out hbD2 (Nat.le_trans hz5 hbk1.size) hro2
                have hbk2 := hbk1.trans (hbD2.mono hbk1.size)
                refine hK.out _ _ ?_ (fun hHeld => ?_)
                · exact hS4 _ hbk2
                clear hK K
                try simp only [Act.put, List.setIfInBounds_toArray, List.set_cons_zero, List.set_cons_succ]
                refine wpAnyH_take (i := 4) (v := ?_) rfl (by kernel_rfl) (by kernel_rfl) (by kernel_rfl) (fun _ _ _ h => h) (Or.inl ⟨by rfl, ?hy⟩) (by assumption) ?_
                case hy => (intro w hSw; (try dsimp only at hSw); go_simp; all_goals with_reducible rfl)
                try simp only [Act.put, List.setIfInBounds_toArray, List.set_cons_zero, List.set_cons_succ]
                refine wpAnyH_take (i := 5) (v := ?_) rfl (by kernel_rfl) (by kernel_rfl) (by kernel_rfl) (fun _ _ _ h => h) (Or.inl ⟨by rfl, ?hy⟩) (by assumption) ?_
                case hy => (intro w hSw; (try dsimp only at hSw); go_simp; all_goals with_reducible rfl)
                try simp only [Act.put, List.setIfInBounds_toArray, List.set_cons_zero, List.set_cons_succ]
                refine wpAnyH_take (i := 6) (v := ?_) rfl (by kernel_rfl) (by kernel_rfl) (by kernel_rfl) (fun _ _ _ h => h) (Or.inl ⟨by rfl, ?hy⟩) (by assumption) ?_
                case hy => (intro w hSw; (try dsimp only at hSw); go_simp; all_goals with_reducible rfl)
                try simp only [Act.put, List.setIfInBounds_toArray, List.set_cons_zero, List.set_cons_succ]
                refine wpAnyH_ready (rs := [7]) (by kernel_rfl) (by simp) (AllReadyH.cons rfl (fun K hK => ?_) AllReadyH.nil)
                go_simp
                have hG3 := Blk.new (wD2) 51 #[.slice none 0 0, .int .i64 0, .int .i64 0]
                have hbk3 : Below w5.heap.size w5 ((wD2).alloc (.cells #[.slice none 0 0, .int .i64 0, .int .i64 0] 51)) := hbk2.alloc hbk2.size _
                have hRL3 := hRL2.below ((Below.refl _ (wD2)).alloc (Nat.le_refl _) (.cells #[.slice none 0 0, .int .i64 0, .int .i64 0] 51)) (Nat.le_trans hz5 hbk2.size)
                obtain ⟨G, hGe, hGl⟩ : ∃ G, G = (wD2).heap.size ∧ w5.heap.size ≤ G := ⟨_, rfl, hbk2.size⟩
                have hG3 : Blk ((wD2).alloc (.cells #[.slice none 0 0, .int .i64 0, .int .i64 0] 51)) (wD2).heap.size 51 #[.slice none 0 0, .int .i64 0, .int .i64 0] := hG3
                rw [← hGe] at hG3
                simp only [← hGe]
                clear hGe
                refine hK.out _ _ ?_ (fun hHeld => ?_)
                · exact hS4 _ hbk3
                clear hK K
                try simp only [Act.put, List.setIfInBounds_toArray, List.set_cons_zero, List.set_cons_succ]
                refine wpAnyH_ready (rs := [8]) (by kernel_rfl) (by simp) (AllReadyH.cons rfl (fun K hK => ?_) AllReadyH.nil)
                have g0 := hG3.cell 0
                have g1 := hG3.cell 1
                have g2 := hG3.cell 2
                have gf := fun i => hG3.frozen i
                go_simp
                clear g0 g1 g2 gf
                have hG4 := ((hG3.set_ 0 (.slice A6 n6 c6)).set_ 1 (.int .i64 (stepD ⟨l.map adat, 0, false, 0⟩ name (cmdOf wh tn bs z)).st)).set_ 2 (.int .i64 (leftR (stepD ⟨l.map adat, 0, false, 0⟩ name (cmdOf wh tn bs z))))
                have hbk4 := ((hbk3.setCell (p := ⟨G, 0, none⟩) hGl (.slice A6 n6 c6)).setCell (p := ⟨G, 1, none⟩) hGl (.int .i64 (stepD ⟨l.map adat, 0, false, 0⟩ name (cmdOf wh tn bs z)).st)).setCell (p := ⟨G, 2, none⟩) hGl (.int .i64 (leftR (stepD ⟨l.map adat, 0, false, 0⟩ name (cmdOf wh tn bs z))))
                have hRL4 := ((hRL3.far (i := 0) hG3 (by decide) (Nat.le_trans hz5 hGl) (.slice A6 n6 c6)).far (i := 1) (hG3.set_ 0 (.slice A6 n6 c6)) (by decide) (Nat.le_trans hz5 hGl) (.int .i64 (stepD ⟨l.map adat, 0, false, 0⟩ name (cmdOf wh tn bs z)).st)).far (i := 2) ((hG3.set_ 0 (.slice A6 n6 c6)).set_ 1 (.int .i64 (stepD ⟨l.map adat, 0, false, 0⟩ name (cmdOf wh tn bs z)).st)) (by decide) (Nat.le_trans hz5 hGl) (.int .i64 (leftR (stepD ⟨l.map adat, 0, false, 0⟩ name (cmdOf wh tn bs z))))
                refine hK.out _ _ ?_ (fun hHeld => ?_)
                · exact hS4 _ hbk4
                clear hK K
                try simp only [Act.put, List.setIfInBounds_toArray, List.set_cons_zero, List.set_cons_succ]
                refine wpAnyH_take (i := 9) (v := ?_) rfl (by kernel_rfl) (by kernel_rfl) (by kernel_rfl) (fun _ _ _ h => h) (Or.inl ⟨by rfl, ?hy⟩) (by assumption) ?_
                case hy => (intro w hSw; (try dsimp only at hSw); go_simp; all_goals with_reducible rfl)
                try simp only [Act.put, List.setIfInBounds_toArray, List.set_cons_zero, List.set_cons_succ]
                refine wpAnyH_done (by kernel_rfl) ?_ _
                have hG6 := hG4
                have hb56 := hbk4
                have hRL6 := hRL4
                have hGle := hGl
                clear hHeld hG4 hbk4 hRL4
                obtain ⟨w6, hw6⟩ : ∃ w6, w6 = ((((((wD2).alloc (.cells #[.slice none 0 0, .int .i64 0, .int .i64 0] 51))).setCell ⟨G, 0, none⟩ (.slice A6 n6 c6)).setCell ⟨G, 1, none⟩ (.int .i64 (stepD ⟨l.map adat, 0, false, 0⟩ name (cmdOf wh tn bs z)).st)).setCell ⟨G, 2, none⟩ (.int .i64 (leftR (stepD ⟨l.map adat, 0, false, 0⟩ name (cmdOf wh tn bs z))))) := ⟨_, rfl⟩
                rw [← hw6] at hG6 hb56 hRL6
                rw [← hw6]
                clear hw6
                have hGd := hG6.cell 0
                have hd6 := hd5.below hb56
                have hM6 := hM5.below (hb56.mono hz5)
                have hs6 := hs5.below hb56 hs5.lt
                have hz6 := Nat.le_trans hz5 hb56.size
                have hz46' := Nat.le_trans hz45 hb56.size
                have hbw6 : Below w.heap.size w w6 := hbw5.trans (hb56.mono hz5)
                have hG6 : Blk w6 G 51 #[.slice A6 n6 c6, .int .i64 (stepD ⟨l.map adat, 0, false, 0⟩ name (cmdOf wh tn bs z)).st, .int .i64 (leftR (stepD ⟨l.map adat, 0, false, 0⟩ name (cmdOf wh tn bs z)))] := hG6
                clear hGd hS4 hdv5 hM5 hs5 hbw5 hb56 hGle
                have hS5 : ∀ w', Blk w' w.heap.size 48 (rstepV wh name tn M m mc z) → Blk w' G 51 #[.slice A6 n6 c6, .int .i64 (stepD ⟨l.map adat, 0, false, 0⟩ name (cmdOf wh tn bs z)).st, .int .i64 (leftR (stepD ⟨l.map adat, 0, false, 0⟩ name (cmdOf wh tn bs z)))] → ((w'.cell? ⟨w.heap.size, 0, none⟩ = some (.int .i64 wh) ∧ w'.cell? ⟨w.heap.size, 1, none⟩ = some (.string name) ∧ w'.cell? ⟨w.heap.size, 2, none⟩ = some (.string tn) ∧ w'.cell? ⟨w.heap.size, 3, none⟩ = some (.slice M m mc) ∧ w'.cell? ⟨w.heap.size, 4, none⟩ = some (.int .i64 z)) ∧ w'.cell? ⟨G, 0, none⟩ = some (.slice A6 n6 c6) ∧ w'.cell? ⟨G, 1, none⟩ = some (.int .i64 (stepD ⟨l.map adat, 0, false, 0⟩ name (cmdOf wh tn bs z)).st)) := fun w' h1 h2 => ⟨⟨h1.cell 0, h1.cell 1, h1.cell 2, h1.cell 3, h1.cell 4⟩, h2.cell 0, h2.cell 1⟩
                have hz46 : w4.heap.size ≤ w6.drew.heap.size := hz46'
                have hEE : (errP ⟨l.map adat, 0, false, 0⟩ name (cmdOf wh tn bs z) == errP ⟨l.map adat, 0, false, 0⟩ name (cmdOf wh tn bs z)) = true := by simp
                have hTT : ((stepD ⟨l.map adat, 0, false, 0⟩ name (cmdOf wh tn bs z)).st == (stepD ⟨l.map adat, 0, false, 0⟩ name (cmdOf wh tn bs z)).st) = true := by simp
                go_wp2_with fail
                refine wp_region_held_drew (S := (fun w' => (w'.cell? ⟨w.heap.size, 0, none⟩ = some (.int .i64 wh) ∧ w'.cell? ⟨w.heap.size, 1, none⟩ = some (.string name) ∧ w'.cell? ⟨w.heap.size, 2, none⟩ = some (.string tn) ∧ w'.cell? ⟨w.heap.size, 3, none⟩ = some (.slice M m mc) ∧ w'.cell? ⟨w.heap.size, 4, none⟩ = some (.int .i64 z)) ∧ w'.cell? ⟨G, 0, none⟩ = some (.slice A6 n6 c6) ∧ w'.cell? ⟨G, 1, none⟩ = some (.int .i64 (stepD ⟨l.map adat, 0, false, 0⟩ name (cmdOf wh tn bs z)).st))) (by kernel_rfl) ?_ (fun hHeld => ?_)
                · exact hS5 _ hs6 hG6
                refine wpAnyH_take (i := 0) (v := ?_) rfl (by kernel_rfl) (by kernel_rfl) (by kernel_rfl) (fun _ _ _ h => h) (Or.inl ⟨by rfl, ?hy⟩) (by assumption) ?_
                case hy => (intro w hSw; (try dsimp only at hSw); go_simp; all_goals with_reducible rfl)
                try simp only [Act.put, List.setIfInBounds_toArray, List.set_cons_zero, List.set_cons_succ]
                refine wpAnyH_ready (rs := [1]) (by kernel_rfl) (by simp) (AllReadyH.cons rfl (fun K hK => ?_) AllReadyH.nil)
                (go_simp; (go_at_call 16; refine (num_any _ _).mono ?_; rintro e w60 ⟨rfl, rfl⟩))
                refine hK.out _ _ ?_ (fun hHeld => ?_)
                · exact hS5 _ hs6 hG6
                clear hK K
                try simp only [Act.put, List.setIfInBounds_toArray, List.set_cons_zero, List.set_cons_succ]
                refine wpAnyH_take (i := 2) (v := ?_) rfl (by kernel_rfl) (by kernel_rfl) (by kernel_rfl) (fun _ _ _ h => h) (Or.inl ⟨by rfl, ?hy⟩) (by assumption) ?_
                case hy => (intro w hSw; (try dsimp only at hSw); go_simp; all_goals with_reducible rfl)
                try simp only [Act.put, List.setIfInBounds_toArray, List.set_cons_zero, List.set_cons_succ]
                refine wpAnyH_take (i := 3) (v := ?_) rfl (by kernel_rfl) (by kernel_rfl) (by kernel_rfl) (fun _ _ _ h => h) (Or.inl ⟨by rfl, ?hy⟩) (by assumption) ?_
                case hy => (intro w hSw; (try dsimp only at hSw); go_simp; all_goals with_reducible rfl)
                try simp only [Act.put, List.setIfInBounds_toArray, List.set_cons_zero, List.set_cons_succ]
                refine wpAnyH_take (i := 4) (v := ?_) rfl (by kernel_rfl) (by kernel_rfl) (by kernel_rfl) (fun _ _ _ h => h) (Or.inl ⟨by rfl, ?hy⟩) (by assumption) ?_
                case hy => (intro w hSw; (try dsimp only at hSw); go_simp; all_goals with_reducible rfl)
                try simp only [Act.put, List.setIfInBounds_toArray, List.set_cons_zero, List.set_cons_succ]
                refine wpAnyH_take (i := 5) (v := ?_) rfl (by kernel_rfl) (by kernel_rfl) (by kernel_rfl) (fun _ _ _ h => h) (Or.inl ⟨by rfl, ?hy⟩) (by assumption) ?_
                case hy => (intro w hSw; (try dsimp only at hSw); go_simp; all_goals with_reducible rfl)
                try simp only [Act.put, List.setIfInBounds_toArray, List.set_cons_zero, List.set_cons_succ]
                refine wpAnyH_take (i := 7) (v := ?_) rfl (by kernel_rfl) (by kernel_rfl) (by kernel_rfl) (fun _ _ _ h => h) (Or.inl ⟨by rfl, ?hy⟩) (by assumption) ?_
                case hy => (intro w hSw; (try dsimp only at hSw); go_simp; all_goals with_reducible rfl)
                try simp only [Act.put, List.setIfInBounds_toArray, List.set_cons_zero, List.set_cons_succ]
                refine wpAnyH_ready (rs := [6]) (by kernel_rfl) (by simp) (AllReadyH.cons rfl (fun K hK => ?_) AllReadyH.nil)
                (go_simp; (go_at_call 28; go_must (refine (ldo_any wh hwh (mc := mc) (z := z) (tn := tn) (bs := bs) w6.drew (show DKd w4.heap.size w6.drew g r ⟨l.map adat, 0, false, 0⟩ from hd6) ⟨hz46, hs1, Int.le_refl 0, (by show (0 : Int) ≤ 1000000000; decide), Int.le_refl 0, (by show (0 : Int) ≤ 9223372036854775807; decide)⟩ hs2 (show Reads w6.drew w6.drew.heap.size 1 M m (bvs bs) from hM6.more hz6) (by omega) (fun x hx => (hflS x hx).1)).mono ?_; rintro e w7 ⟨rfl, hd7, hbk7⟩)); have hG7 : Blk w7 G 51 _ := hbk7.2 _ _ _ hG6 (by decide) (by decide) (by decide); have hs7 : Blk w7 w.heap.size 48 _ := hbk7.2 _ _ _ hs6 (by decide) (by decide) (by decide); have hRL7 := (show RL w.heap.size w6.drew A6 n6 c6 _ from hRL6).keep hbk7 hz4; have hbw7 : Below w.heap.size w w7 := hbw6.drew.trans (hbk7.1.mono hz4))
                refine hK.out _ _ ?_ (fun hHeld => ?_)
                · exact hS5 _ hs7 hG7
                clear hK K
                try simp only [Act.put, List.setIfInBounds_toArray, List.set_cons_zero, List.set_cons_succ]
                refine wpAnyH_take (i := 8) (v := ?_) rfl (by kernel_rfl) (by kernel_rfl) (by kernel_rfl) (fun _ _ _ h => h) (Or.inl ⟨by rfl, ?hy⟩) (by assumption) ?_
                case hy => (intro w hSw; (try dsimp only at hSw); go_simp; all_goals with_reducible rfl)
                try simp only [Act.put, List.setIfInBounds_toArray, List.set_cons_zero, List.set_cons_succ]
                refine wpAnyH_take (i := 9) (v := ?_) rfl (by kernel_rfl) (by kernel_rfl) (by kernel_rfl) (fun _ _ _ h => h) (Or.inl ⟨by rfl, ?hy⟩) (by assumption) ?_
                case hy => (intro w hSw; (try dsimp only at hSw); go_simp; all_goals with_reducible rfl)
                try simp only [Act.put, List.setIfInBounds_toArray, List.set_cons_zero, List.set_cons_succ]
                refine wpAnyH_take (i := 10) (v := ?_) rfl (by kernel_rfl) (by kernel_rfl) (by kernel_rfl) (fun _ _ _ h => h) (Or.inl ⟨by rfl, ?hy⟩) (by assumption) ?_
                case hy => (intro w hSw; (try dsimp only at hSw); go_simp; all_goals with_reducible rfl)
                try simp only [Act.put, List.setIfInBounds_toArray, List.set_cons_zero, List.set_cons_succ]
                refine wpAnyH_take (i := 11) (v := ?_) rfl (by kernel_rfl) (by kernel_rfl) (by kernel_rfl) (fun _ _ _ h => h) (Or.inl ⟨by rfl, ?hy⟩) (by assumption) ?_
                case hy => (intro w hSw; (try dsimp only at hSw); go_simp; all_goals with_reducible rfl)
                try simp only [Act.put, List.setIfInBounds_toArray, List.set_cons_zero, List.set_cons_succ]
                refine wpAnyH_take (i := 13) (v := ?_) rfl (by kernel_rfl) (by kernel_rfl) (by kernel_rfl) (fun _ _ _ h => h) (Or.inl ⟨by rfl, ?hy⟩) (by assumption) ?_
                case hy => (intro w hSw; (try dsimp only at hSw); go_simp; all_goals with_reducible rfl)
                try simp only [Act.put, List.setIfInBounds_toArray, List.set_cons_zero, List.set_cons_succ]
                refine wpAnyH_take (i := 14) (v := ?_) rfl (by kernel_rfl) (by kernel_rfl) (by kernel_rfl) (fun _ _ _ h => h) (Or.inl ⟨by rfl, ?hy⟩) (by assumption) ?_
                case hy => (intro w hSw; (try dsimp only at hSw); go_simp; all_goals with_reducible rfl)
                try simp only [Act.put, List.setIfInBounds_toArray, List.set_cons_zero, List.set_cons_succ]
                refine wpAnyH_ready (rs := [12]) (by kernel_rfl) (by simp) (AllReadyH.cons rfl (fun K hK => ?_) AllReadyH.nil)
                (go_simp; (go_at_call 20; go_must (refine (files_s w7 hd7 hFit1).mono ?_; rintro e w8 ⟨v8, rfl, hown8, hb8⟩)); obtain ⟨A8, n8, c8, rfl⟩ := own_sliceN hown8; have HN8 : Hid (n8 = (stepD ⟨l.map adat, 0, false, 0⟩ name (cmdOf wh tn bs z)).l.length) := own_len3 hown8; rw [← HN8.out] at hown8; have hG8 := hG7.below hb8 hG7.lt; have hs8 := hs7.below hb8 hs7.lt; have hd8 := hd7.below hb8; have hRL8 := hRL7.below hb8 hbw7.size; have hbw8 := hbw7.trans (hb8.mono hbw7.size))
                refine hK.out _ _ ?_ (fun hHeld => ?_)
                · exact hS5 _ hs8 hG8
                clear hK K
                try simp only [Act.put, List.setIfInBounds_toArray, List.set_cons_zero, List.set_cons_succ]
                refine wpAnyH_ready (rs := [15]) (by kernel_rfl) (by simp) (AllReadyH.cons rfl (fun K hK => ?_) AllReadyH.nil)
                (go_simp; (go_at_call 17; go_must (have hrA := Reads.of_own3 hown8; have hrB := hRL8.reads hbw8.size; have hnn : n6 = n8 := (by have h1 := hRL8.len; have h2 := HN8.out; omega); subst hnn; rw [dvs_afs] at hrA hrB; refine (rsame_yes (c := c8) (c' := c6) w8 hrA hrB (by have h1 := hFit1.num; have h2 := HN8.out; omega)).mono ?_; rintro e w9 ⟨rfl, hb9⟩)); have hG9 := hG8.below hb9 hG8.lt; have hs9 := hs8.below hb9 hs8.lt; have hd9 := hd8.below hb9; have hbw9 := hbw8.trans (hb9.mono hbw8.size))
                refine hK.out _ _ ?_ (fun hHeld => ?_)
                · exact hS5 _ hs9 hG9
                clear hK K
                try simp only [Act.put, List.setIfInBounds_toArray, List.set_cons_zero, List.set_cons_succ]
                refine wpAnyH_take (i := 16) (v := ?_) rfl (by kernel_rfl) (by kernel_rfl) (by kernel_rfl) (fun _ _ _ h => h) (Or.inl ⟨by rfl, ?hy⟩) (by assumption) ?_
                case hy => (intro w hSw; (try dsimp only at hSw); go_simp; all_goals with_reducible rfl)
                try simp only [Act.put, List.setIfInBounds_toArray, List.set_cons_zero, List.set_cons_succ]
                refine wpAnyH_take (i := 17) (v := ?_) rfl (by kernel_rfl) (by kernel_rfl) (by kernel_rfl) (fun _ _ _ h => h) (Or.inl ⟨by rfl, ?hy⟩) (by assumption) ?_
                case hy => (intro w hSw; (try dsimp only at hSw); go_simp; all_goals with_reducible rfl)
                try simp only [Act.put, List.setIfInBounds_toArray, List.set_cons_zero, List.set_cons_succ]
                refine wpAnyH_take (i := 18) (v := ?_) rfl (by kernel_rfl) (by kernel_rfl) (by kernel_rfl) (fun _ _ _ h => h) (Or.inl ⟨by rfl, ?hy⟩) (by assumption) ?_
                case hy => (intro w hSw; (try dsimp only at hSw); go_simp; all_goals with_reducible rfl)
                try simp only [Act.put, List.setIfInBounds_toArray, List.set_cons_zero, List.set_cons_succ]
                refine wpAnyH_take (i := 20) (v := ?_) rfl (by kernel_rfl) (by kernel_rfl) (by kernel_rfl) (fun _ _ _ h => h) (Or.inl ⟨by rfl, ?hy⟩) (by assumption) ?_
                case hy => (intro w hSw; (try dsimp only at hSw); go_simp; all_goals with_reducible rfl)
                try simp only [Act.put, List.setIfInBounds_toArray, List.set_cons_zero, List.set_cons_succ]
                refine wpAnyH_take (i := 21) (v := ?_) rfl (by kernel_rfl) (by kernel_rfl) (by kernel_rfl) (fun _ _ _ h => h) (Or.inl ⟨by rfl, ?hy⟩) (by assumption) ?_
                case hy => (intro w hSw; (try dsimp only at hSw); go_simp; all_goals with_reducible rfl)
                try simp only [Act.put, List.setIfInBounds_toArray, List.set_cons_zero, List.set_cons_succ]
                refine wpAnyH_ready (rs := [19]) (by kernel_rfl) (by simp) (AllReadyH.cons rfl (fun K hK => ?_) AllReadyH.nil)
                (go_simp; (go_at_call 21; go_must (refine (steps_s w9 hd9).mono ?_; rintro e w91 ⟨rfl, rfl⟩)))
                refine hK.out _ _ ?_ (fun hHeld => ?_)
                · exact hS5 _ hs9 hG9
                clear hK K
                try simp only [Act.put, List.setIfInBounds_toArray, List.set_cons_zero, List.set_cons_succ]
                refine wpAnyH_take (i := 22) (v := ?_) rfl (by kernel_rfl) (by kernel_rfl) (by kernel_rfl) (fun _ _ _ h => h) (Or.inl ⟨by rfl, ?hy⟩) (by assumption) ?_
                case hy => (intro w hSw; (try dsimp only at hSw); go_simp; all_goals with_reducible rfl)
                try simp only [Act.put, List.setIfInBounds_toArray, List.set_cons_zero, List.set_cons_succ]
                refine wpAnyH_take (i := 23) (v := ?_) rfl (by kernel_rfl) (by kernel_rfl) (by kernel_rfl) (fun _ _ _ h => h) (Or.inl ⟨by rfl, ?hy⟩) (by assumption) ?_
                case hy => (intro w hSw; (try dsimp only at hSw); go_simp; all_goals with_reducible rfl)
                try simp only [Act.put, List.setIfInBounds_toArray, List.set_cons_zero, List.set_cons_succ]
                refine wpAnyH_take (i := 24) (v := ?_) rfl (by kernel_rfl) (by kernel_rfl) (by kernel_rfl) (fun _ _ _ h => h) (Or.inl ⟨by rfl, ?hy⟩) (by assumption) ?_
                case hy => (intro w hSw; (try dsimp only at hSw); go_simp; all_goals with_reducible rfl)
                try simp only [Act.put, List.setIfInBounds_toArray, List.set_cons_zero, List.set_cons_succ]
                refine wpAnyH_ready (rs := [25]) (by kernel_rfl) (by simp) (AllReadyH.cons rfl (fun K hK => ?_) AllReadyH.nil)
                (go_simp; (go_at_call 12; go_must (refine (works_any _).mono ?_; rintro e w10 ⟨rfl, hb10⟩)); have hG10 := hG9.below hb10 hG9.lt; have hs10 := hs9.below hb10 hs9.lt; have hbw10 := hbw9.trans (hb10.mono hbw9.size))
                refine hK.out _ _ ?_ (fun hHeld => ?_)
                · exact hS5 _ hs10 hG10
                clear hK K
                try simp only [Act.put, List.setIfInBounds_toArray, List.set_cons_zero, List.set_cons_succ]
                refine wpAnyH_take (i := 26) (v := ?_) rfl (by kernel_rfl) (by kernel_rfl) (by kernel_rfl) (fun _ _ _ h => h) (Or.inl ⟨by rfl, ?hy⟩) (by assumption) ?_
                case hy => (intro w hSw; (try dsimp only at hSw); go_simp; all_goals with_reducible rfl)
                try simp only [Act.put, List.setIfInBounds_toArray, List.set_cons_zero, List.set_cons_succ]
                refine wpAnyH_take (i := 27) (v := ?_) rfl (by kernel_rfl) (by kernel_rfl) (by kernel_rfl) (fun _ _ _ h => h) (Or.inl ⟨by rfl, ?hy⟩) (by assumption) ?_
                case hy => (intro w hSw; (try dsimp only at hSw); go_simp; all_goals with_reducible rfl)
                try simp only [Act.put, List.setIfInBounds_toArray, List.set_cons_zero, List.set_cons_succ]
                refine wpAnyH_done (by kernel_rfl) ?_ _
                (go_simp; go_wp2_with fail; go_ret; first | exact ⟨rfl, hbw10⟩ | exact ⟨(by simp), hbw10⟩ | exact ⟨ret_bool (by simp), hbw10⟩)
              · go_simp
                have hG5 := Blk.new (wN1) 51 #[.slice none 0 0, .int .i64 0, .int .i64 0]
                have hbk5 : Below w5.heap.size w5 ((wN1).alloc (.cells #[.slice none 0 0, .int .i64 0, .int .i64 0] 51)) := hbk1.alloc hbk1.size _
                obtain ⟨G, hGe, hGl⟩ : ∃ G, G = (wN1).heap.size ∧ w5.heap.size ≤ G := ⟨_, rfl, hbk1.size⟩
                have hG5 : Blk ((wN1).alloc (.cells #[.slice none 0 0, .int .i64 0, .int .i64 0] 51)) (wN1).heap.size 51 #[.slice none 0 0, .int .i64 0, .int .i64 0] := hG5
                rw [← hGe] at hG5
                simp only [← hGe]
                clear hGe
                refine hK.out _ _ ?_ (fun hHeld => ?_)
                · exact hS4 _ hbk5
                clear hK K
                try simp only [Act.put, List.setIfInBounds_toArray, List.set_cons_zero, List.set_cons_succ]
                refine wpAnyH_ready (rs := [3]) (by kernel_rfl) (by simp) (AllReadyH.cons rfl (fun K hK => ?_) AllReadyH.nil)
                go_simp
                (go_at_call 26; go_must (refine (rdo_any wh hwh (d := ⟨l.map adat, 0, false, 0⟩) (c := c) (mc := mc) (z := z) (name := name) (tn := tn) (bs := bs) _ ((hdv5.below (hbk5.mono hz5)).more (Nat.le_trans hz5 hbk5.size)) (by omega) hflS hs1 hs2 ((hM5.below (hbk5.mono hz5)).more (Nat.le_trans hz5 hbk5.size)) (by omega) (Int.le_refl 0) (by show (0 : Int) ≤ 1000000000; decide) (Int.le_refl 0) (by show (0 : Int) ≤ 9223372036854775807; decide)).mono ?_; rintro e wD6 ⟨⟨A6, n6, c6, rfl, hro6⟩, hbD6⟩))
                have hRLa6 : RL w.heap.size ((wN1).alloc (.cells #[.slice none 0 0, .int .i64 0, .int .i64 0] 51)) A n c (l.map adat) := .inl (hdv5.below (hbk5.mono hz5))
                have hRL6 := hRLa6.out hbD6 (Nat.le_trans hz5 hbk5.size) hro6
                have hbk6 := hbk5.trans (hbD6.mono hbk5.size)
                have hG6 := hG5.below hbD6 hG5.lt
                refine hK.out _ _ ?_ (fun hHeld => ?_)
                · exact hS4 _ hbk6
                clear hK K
                try simp only [Act.put, List.setIfInBounds_toArray, List.set_cons_zero, List.set_cons_succ]
                refine wpAnyH_take (i := 4) (v := ?_) rfl (by kernel_rfl) (by kernel_rfl) (by kernel_rfl) (fun _ _ _ h => h) (Or.inl ⟨by rfl, ?hy⟩) (by assumption) ?_
                case hy => (intro w hSw; (try dsimp only at hSw); go_simp; all_goals with_reducible rfl)
                try simp only [Act.put, List.setIfInBounds_toArray, List.set_cons_zero, List.set_cons_succ]
                refine wpAnyH_take (i := 5) (v := ?_) rfl (by kernel_rfl) (by kernel_rfl) (by kernel_rfl) (fun _ _ _ h => h) (Or.inl ⟨by rfl, ?hy⟩) (by assumption) ?_
                case hy => (intro w hSw; (try dsimp only at hSw); go_simp; all_goals with_reducible rfl)
                try simp only [Act.put, List.setIfInBounds_toArray, List.set_cons_zero, List.set_cons_succ]
                refine wpAnyH_take (i := 6) (v := ?_) rfl (by kernel_rfl) (by kernel_rfl) (by kernel_rfl) (fun _ _ _ h => h) (Or.inl ⟨by rfl, ?hy⟩) (by assumption) ?_
                case hy => (intro w hSw; (try dsimp only at hSw); go_simp; all_goals with_reducible rfl)
                try simp only [Act.put, List.setIfInBounds_toArray, List.set_cons_zero, List.set_cons_succ]
                refine wpAnyH_ready (rs := [8]) (by kernel_rfl) (by simp) (AllReadyH.cons rfl (fun K hK => ?_) AllReadyH.nil)
                have g0 := hG6.cell 0
                have g1 := hG6.cell 1
                have g2 := hG6.cell 2
                have gf := fun i => hG6.frozen i
                go_simp
                clear g0 g1 g2 gf
                have hG7 := ((hG6.set_ 0 (.slice A6 n6 c6)).set_ 1 (.int .i64 (stepD ⟨l.map adat, 0, false, 0⟩ name (cmdOf wh tn bs z)).st)).set_ 2 (.int .i64 (leftR (stepD ⟨l.map adat, 0, false, 0⟩ name (cmdOf wh tn bs z))))
                have hbk7 := ((hbk6.setCell (p := ⟨G, 0, none⟩) hGl (.slice A6 n6 c6)).setCell (p := ⟨G, 1, none⟩) hGl (.int .i64 (stepD ⟨l.map adat, 0, false, 0⟩ name (cmdOf wh tn bs z)).st)).setCell (p := ⟨G, 2, none⟩) hGl (.int .i64 (leftR (stepD ⟨l.map adat, 0, false, 0⟩ name (cmdOf wh tn bs z))))
                have hRL7 := ((hRL6.far (i := 0) hG6 (by decide) (Nat.le_trans hz5 hGl) (.slice A6 n6 c6)).far (i := 1) (hG6.set_ 0 (.slice A6 n6 c6)) (by decide) (Nat.le_trans hz5 hGl) (.int .i64 (stepD ⟨l.map adat, 0, false, 0⟩ name (cmdOf wh tn bs z)).st)).far (i := 2) ((hG6.set_ 0 (.slice A6 n6 c6)).set_ 1 (.int .i64 (stepD ⟨l.map adat, 0, false, 0⟩ name (cmdOf wh tn bs z)).st)) (by decide) (Nat.le_trans hz5 hGl) (.int .i64 (leftR (stepD ⟨l.map adat, 0, false, 0⟩ name (cmdOf wh tn bs z))))
                refine hK.out _ _ ?_ (fun hHeld => ?_)
                · exact hS4 _ hbk7
                clear hK K
                try simp only [Act.put, List.setIfInBounds_toArray, List.set_cons_zero, List.set_cons_succ]
                refine wpAnyH_take (i := 9) (v := ?_) rfl (by kernel_rfl) (by kernel_rfl) (by kernel_rfl) (fun _ _ _ h => h) (Or.inl ⟨by rfl, ?hy⟩) (by assumption) ?_
                case hy => (intro w hSw; (try dsimp only at hSw); go_simp; all_goals with_reducible rfl)
                try simp only [Act.put, List.setIfInBounds_toArray, List.set_cons_zero, List.set_cons_succ]
                refine wpAnyH_done (by kernel_rfl) ?_ _
                have hG6 := hG7
                have hb56 := hbk7
                have hRL6 := hRL7
                have hGle := hGl
                clear hHeld hG7 hbk7 hRL7
                obtain ⟨w6, hw6⟩ : ∃ w6, w6 = ((((wD6).setCell ⟨G, 0, none⟩ (.slice A6 n6 c6)).setCell ⟨G, 1, none⟩ (.int .i64 (stepD ⟨l.map adat, 0, false, 0⟩ name (cmdOf wh tn bs z)).st)).setCell ⟨G, 2, none⟩ (.int .i64 (leftR (stepD ⟨l.map adat, 0, false, 0⟩ name (cmdOf wh tn bs z))))) := ⟨_, rfl⟩
                rw [← hw6] at hG6 hb56 hRL6
                rw [← hw6]
                clear hw6
                have hGd := hG6.cell 0
                have hd6 := hd5.below hb56
                have hM6 := hM5.below (hb56.mono hz5)
                have hs6 := hs5.below hb56 hs5.lt
                have hz6 := Nat.le_trans hz5 hb56.size
                have hz46' := Nat.le_trans hz45 hb56.size
                have hbw6 : Below w.heap.size w w6 := hbw5.trans (hb56.mono hz5)
                have hG6 : Blk w6 G 51 #[.slice A6 n6 c6, .int .i64 (stepD ⟨l.map adat, 0, false, 0⟩ name (cmdOf wh tn bs z)).st, .int .i64 (leftR (stepD ⟨l.map adat, 0, false, 0⟩ name (cmdOf wh tn bs z)))] := hG6
                clear hGd hS4 hdv5 hM5 hs5 hbw5 hb56 hGle
                have hS5 : ∀ w', Blk w' w.heap.size 48 (rstepV wh name tn M m mc z) → Blk w' G 51 #[.slice A6 n6 c6, .int .i64 (stepD ⟨l.map adat, 0, false, 0⟩ name (cmdOf wh tn bs z)).st, .int .i64 (leftR (stepD ⟨l.map adat, 0, false, 0⟩ name (cmdOf wh tn bs z)))] → ((w'.cell? ⟨w.heap.size, 0, none⟩ = some (.int .i64 wh) ∧ w'.cell? ⟨w.heap.size, 1, none⟩ = some (.string name) ∧ w'.cell? ⟨w.heap.size, 2, none⟩ = some (.string tn) ∧ w'.cell? ⟨w.heap.size, 3, none⟩ = some (.slice M m mc) ∧ w'.cell? ⟨w.heap.size, 4, none⟩ = some (.int .i64 z)) ∧ w'.cell? ⟨G, 0, none⟩ = some (.slice A6 n6 c6) ∧ w'.cell? ⟨G, 1, none⟩ = some (.int .i64 (stepD ⟨l.map adat, 0, false, 0⟩ name (cmdOf wh tn bs z)).st)) := fun w' h1 h2 => ⟨⟨h1.cell 0, h1.cell 1, h1.cell 2, h1.cell 3, h1.cell 4⟩, h2.cell 0, h2.cell 1⟩
                have hz46 : w4.heap.size ≤ w6.drew.heap.size := hz46'
                have hEE : (errP ⟨l.map adat, 0, false, 0⟩ name (cmdOf wh tn bs z) == errP ⟨l.map adat, 0, false, 0⟩ name (cmdOf wh tn bs z)) = true := by simp
                have hTT : ((stepD ⟨l.map adat, 0, false, 0⟩ name (cmdOf wh tn bs z)).st == (stepD ⟨l.map adat, 0, false, 0⟩ name (cmdOf wh tn bs z)).st) = true := by simp
                go_wp2_with fail
                refine wp_region_held_drew (S := (fun w' => (w'.cell? ⟨w.heap.size, 0, none⟩ = some (.int .i64 wh) ∧ w'.cell? ⟨w.heap.size, 1, none⟩ = some (.string name) ∧ w'.cell? ⟨w.heap.size, 2, none⟩ = some (.string tn) ∧ w'.cell? ⟨w.heap.size, 3, none⟩ = some (.slice M m mc) ∧ w'.cell? ⟨w.heap.size, 4, none⟩ = some (.int .i64 z)) ∧ w'.cell? ⟨G, 0, none⟩ = some (.slice A6 n6 c6) ∧ w'.cell? ⟨G, 1, none⟩ = some (.int .i64 (stepD ⟨l.map adat, 0, false, 0⟩ name (cmdOf wh tn bs z)).st))) (by kernel_rfl) ?_ (fun hHeld => ?_)
                · exact hS5 _ hs6 hG6
                refine wpAnyH_take (i := 0) (v := ?_) rfl (by kernel_rfl) (by kernel_rfl) (by kernel_rfl) (fun _ _ _ h => h) (Or.inl ⟨by rfl, ?hy⟩) (by assumption) ?_
                case hy => (intro w hSw; (try dsimp only at hSw); go_simp; all_goals with_reducible rfl)
                try simp only [Act.put, List.setIfInBounds_toArray, List.set_cons_zero, List.set_cons_succ]
                refine wpAnyH_ready (rs := [1]) (by kernel_rfl) (by simp) (AllReadyH.cons rfl (fun K hK => ?_) AllReadyH.nil)
                (go_simp; (go_at_call 16; refine (num_any _ _).mono ?_; rintro e w60 ⟨rfl, rfl⟩))
                refine hK.out _ _ ?_ (fun hHeld => ?_)
                · exact hS5 _ hs6 hG6
                clear hK K
                try simp only [Act.put, List.setIfInBounds_toArray, List.set_cons_zero, List.set_cons_succ]
                refine wpAnyH_take (i := 2) (v := ?_) rfl (by kernel_rfl) (by kernel_rfl) (by kernel_rfl) (fun _ _ _ h => h) (Or.inl ⟨by rfl, ?hy⟩) (by assumption) ?_
                case hy => (intro w hSw; (try dsimp only at hSw); go_simp; all_goals with_reducible rfl)
                try simp only [Act.put, List.setIfInBounds_toArray, List.set_cons_zero, List.set_cons_succ]
                refine wpAnyH_take (i := 3) (v := ?_) rfl (by kernel_rfl) (by kernel_rfl) (by kernel_rfl) (fun _ _ _ h => h) (Or.inl ⟨by rfl, ?hy⟩) (by assumption) ?_
                case hy => (intro w hSw; (try dsimp only at hSw); go_simp; all_goals with_reducible rfl)
                try simp only [Act.put, List.setIfInBounds_toArray, List.set_cons_zero, List.set_cons_succ]
                refine wpAnyH_take (i := 4) (v := ?_) rfl (by kernel_rfl) (by kernel_rfl) (by kernel_rfl) (fun _ _ _ h => h) (Or.inl ⟨by rfl, ?hy⟩) (by assumption) ?_
                case hy => (intro w hSw; (try dsimp only at hSw); go_simp; all_goals with_reducible rfl)
                try simp only [Act.put, List.setIfInBounds_toArray, List.set_cons_zero, List.set_cons_succ]
                refine wpAnyH_take (i := 5) (v := ?_) rfl (by kernel_rfl) (by kernel_rfl) (by kernel_rfl) (fun _ _ _ h => h) (Or.inl ⟨by rfl, ?hy⟩) (by assumption) ?_
                case hy => (intro w hSw; (try dsimp only at hSw); go_simp; all_goals with_reducible rfl)
                try simp only [Act.put, List.setIfInBounds_toArray, List.set_cons_zero, List.set_cons_succ]
                refine wpAnyH_take (i := 7) (v := ?_) rfl (by kernel_rfl) (by kernel_rfl) (by kernel_rfl) (fun _ _ _ h => h) (Or.inl ⟨by rfl, ?hy⟩) (by assumption) ?_
                case hy => (intro w hSw; (try dsimp only at hSw); go_simp; all_goals with_reducible rfl)
                try simp only [Act.put, List.setIfInBounds_toArray, List.set_cons_zero, List.set_cons_succ]
                refine wpAnyH_ready (rs := [6]) (by kernel_rfl) (by simp) (AllReadyH.cons rfl (fun K hK => ?_) AllReadyH.nil)
                (go_simp; (go_at_call 28; go_must (refine (ldo_any wh hwh (mc := mc) (z := z) (tn := tn) (bs := bs) w6.drew (show DKd w4.heap.size w6.drew g r ⟨l.map adat, 0, false, 0⟩ from hd6) ⟨hz46, hs1, Int.le_refl 0, (by show (0 : Int) ≤ 1000000000; decide), Int.le_refl 0, (by show (0 : Int) ≤ 9223372036854775807; decide)⟩ hs2 (show Reads w6.drew w6.drew.heap.size 1 M m (bvs bs) from hM6.more hz6) (by omega) (fun x hx => (hflS x hx).1)).mono ?_; rintro e w7 ⟨rfl, hd7, hbk7⟩)); have hG7 : Blk w7 G 51 _ := hbk7.2 _ _ _ hG6 (by decide) (by decide) (by decide); have hs7 : Blk w7 w.heap.size 48 _ := hbk7.2 _ _ _ hs6 (by decide) (by decide) (by decide); have hRL7 := (show RL w.heap.size w6.drew A6 n6 c6 _ from hRL6).keep hbk7 hz4; have hbw7 : Below w.heap.size w w7 := hbw6.drew.trans (hbk7.1.mono hz4))
                refine hK.out _ _ ?_ (fun hHeld => ?_)
                · exact hS5 _ hs7 hG7
                clear hK K
                try simp only [Act.put, List.setIfInBounds_toArray, List.set_cons_zero, List.set_cons_succ]
                refine wpAnyH_take (i := 8) (v := ?_) rfl (by kernel_rfl) (by kernel_rfl) (by kernel_rfl) (fun _ _ _ h => h) (Or.inl ⟨by rfl, ?hy⟩) (by assumption) ?_
                case hy => (intro w hSw; (try dsimp only at hSw); go_simp; all_goals with_reducible rfl)
                try simp only [Act.put, List.setIfInBounds_toArray, List.set_cons_zero, List.set_cons_succ]
                refine wpAnyH_take (i := 9) (v := ?_) rfl (by kernel_rfl) (by kernel_rfl) (by kernel_rfl) (fun _ _ _ h => h) (Or.inl ⟨by rfl, ?hy⟩) (by assumption) ?_
                case hy => (intro w hSw; (try dsimp only at hSw); go_simp; all_goals with_reducible rfl)
                try simp only [Act.put, List.setIfInBounds_toArray, List.set_cons_zero, List.set_cons_succ]
                refine wpAnyH_take (i := 10) (v := ?_) rfl (by kernel_rfl) (by kernel_rfl) (by kernel_rfl) (fun _ _ _ h => h) (Or.inl ⟨by rfl, ?hy⟩) (by assumption) ?_
                case hy => (intro w hSw; (try dsimp only at hSw); go_simp; all_goals with_reducible rfl)
                try simp only [Act.put, List.setIfInBounds_toArray, List.set_cons_zero, List.set_cons_succ]
                refine wpAnyH_take (i := 11) (v := ?_) rfl (by kernel_rfl) (by kernel_rfl) (by kernel_rfl) (fun _ _ _ h => h) (Or.inl ⟨by rfl, ?hy⟩) (by assumption) ?_
                case hy => (intro w hSw; (try dsimp only at hSw); go_simp; all_goals with_reducible rfl)
                try simp only [Act.put, List.setIfInBounds_toArray, List.set_cons_zero, List.set_cons_succ]
                refine wpAnyH_take (i := 13) (v := ?_) rfl (by kernel_rfl) (by kernel_rfl) (by kernel_rfl) (fun _ _ _ h => h) (Or.inl ⟨by rfl, ?hy⟩) (by assumption) ?_
                case hy => (intro w hSw; (try dsimp only at hSw); go_simp; all_goals with_reducible rfl)
                try simp only [Act.put, List.setIfInBounds_toArray, List.set_cons_zero, List.set_cons_succ]
                refine wpAnyH_take (i := 14) (v := ?_) rfl (by kernel_rfl) (by kernel_rfl) (by kernel_rfl) (fun _ _ _ h => h) (Or.inl ⟨by rfl, ?hy⟩) (by assumption) ?_
                case hy => (intro w hSw; (try dsimp only at hSw); go_simp; all_goals with_reducible rfl)
                try simp only [Act.put, List.setIfInBounds_toArray, List.set_cons_zero, List.set_cons_succ]
                refine wpAnyH_ready (rs := [12]) (by kernel_rfl) (by simp) (AllReadyH.cons rfl (fun K hK => ?_) AllReadyH.nil)
                (go_simp; (go_at_call 20; go_must (refine (files_s w7 hd7 hFit1).mono ?_; rintro e w8 ⟨v8, rfl, hown8, hb8⟩)); obtain ⟨A8, n8, c8, rfl⟩ := own_sliceN hown8; have HN8 : Hid (n8 = (stepD ⟨l.map adat, 0, false, 0⟩ name (cmdOf wh tn bs z)).l.length) := own_len3 hown8; rw [← HN8.out] at hown8; have hG8 := hG7.below hb8 hG7.lt; have hs8 := hs7.below hb8 hs7.lt; have hd8 := hd7.below hb8; have hRL8 := hRL7.below hb8 hbw7.size; have hbw8 := hbw7.trans (hb8.mono hbw7.size))
                refine hK.out _ _ ?_ (fun hHeld => ?_)
                · exact hS5 _ hs8 hG8
                clear hK K
                try simp only [Act.put, List.setIfInBounds_toArray, List.set_cons_zero, List.set_cons_succ]
                refine wpAnyH_ready (rs := [15]) (by kernel_rfl) (by simp) (AllReadyH.cons rfl (fun K hK => ?_) AllReadyH.nil)
                (go_simp; (go_at_call 17; go_must (have hrA := Reads.of_own3 hown8; have hrB := hRL8.reads hbw8.size; have hnn : n6 = n8 := (by have h1 := hRL8.len; have h2 := HN8.out; omega); subst hnn; rw [dvs_afs] at hrA hrB; refine (rsame_yes (c := c8) (c' := c6) w8 hrA hrB (by have h1 := hFit1.num; have h2 := HN8.out; omega)).mono ?_; rintro e w9 ⟨rfl, hb9⟩)); have hG9 := hG8.below hb9 hG8.lt; have hs9 := hs8.below hb9 hs8.lt; have hd9 := hd8.below hb9; have hbw9 := hbw8.trans (hb9.mono hbw8.size))
                refine hK.out _ _ ?_ (fun hHeld => ?_)
                · exact hS5 _ hs9 hG9
                clear hK K
                try simp only [Act.put, List.setIfInBounds_toArray, List.set_cons_zero, List.set_cons_succ]
                refine wpAnyH_take (i := 16) (v := ?_) rfl (by kernel_rfl) (by kernel_rfl) (by kernel_rfl) (fun _ _ _ h => h) (Or.inl ⟨by rfl, ?hy⟩) (by assumption) ?_
                case hy => (intro w hSw; (try dsimp only at hSw); go_simp; all_goals with_reducible rfl)
                try simp only [Act.put, List.setIfInBounds_toArray, List.set_cons_zero, List.set_cons_succ]
                refine wpAnyH_take (i := 17) (v := ?_) rfl (by kernel_rfl) (by kernel_rfl) (by kernel_rfl) (fun _ _ _ h => h) (Or.inl ⟨by rfl, ?hy⟩) (by assumption) ?_
                case hy => (intro w hSw; (try dsimp only at hSw); go_simp; all_goals with_reducible rfl)
                try simp only [Act.put, List.setIfInBounds_toArray, List.set_cons_zero, List.set_cons_succ]
                refine wpAnyH_take (i := 18) (v := ?_) rfl (by kernel_rfl) (by kernel_rfl) (by kernel_rfl) (fun _ _ _ h => h) (Or.inl ⟨by rfl, ?hy⟩) (by assumption) ?_
                case hy => (intro w hSw; (try dsimp only at hSw); go_simp; all_goals with_reducible rfl)
                try simp only [Act.put, List.setIfInBounds_toArray, List.set_cons_zero, List.set_cons_succ]
                refine wpAnyH_take (i := 20) (v := ?_) rfl (by kernel_rfl) (by kernel_rfl) (by kernel_rfl) (fun _ _ _ h => h) (Or.inl ⟨by rfl, ?hy⟩) (by assumption) ?_
                case hy => (intro w hSw; (try dsimp only at hSw); go_simp; all_goals with_reducible rfl)
                try simp only [Act.put, List.setIfInBounds_toArray, List.set_cons_zero, List.set_cons_succ]
                refine wpAnyH_take (i := 21) (v := ?_) rfl (by kernel_rfl) (by kernel_rfl) (by kernel_rfl) (fun _ _ _ h => h) (Or.inl ⟨by rfl, ?hy⟩) (by assumption) ?_
                case hy => (intro w hSw; (try dsimp only at hSw); go_simp; all_goals with_reducible rfl)
                try simp only [Act.put, List.setIfInBounds_toArray, List.set_cons_zero, List.set_cons_succ]
                refine wpAnyH_ready (rs := [19]) (by kernel_rfl) (by simp) (AllReadyH.cons rfl (fun K hK => ?_) AllReadyH.nil)
                (go_simp; (go_at_call 21; go_must (refine (steps_s w9 hd9).mono ?_; rintro e w91 ⟨rfl, rfl⟩)))
                refine hK.out _ _ ?_ (fun hHeld => ?_)
                · exact hS5 _ hs9 hG9
                clear hK K
                try simp only [Act.put, List.setIfInBounds_toArray, List.set_cons_zero, List.set_cons_succ]
                refine wpAnyH_take (i := 22) (v := ?_) rfl (by kernel_rfl) (by kernel_rfl) (by kernel_rfl) (fun _ _ _ h => h) (Or.inl ⟨by rfl, ?hy⟩) (by assumption) ?_
                case hy => (intro w hSw; (try dsimp only at hSw); go_simp; all_goals with_reducible rfl)
                try simp only [Act.put, List.setIfInBounds_toArray, List.set_cons_zero, List.set_cons_succ]
                refine wpAnyH_take (i := 23) (v := ?_) rfl (by kernel_rfl) (by kernel_rfl) (by kernel_rfl) (fun _ _ _ h => h) (Or.inl ⟨by rfl, ?hy⟩) (by assumption) ?_
                case hy => (intro w hSw; (try dsimp only at hSw); go_simp; all_goals with_reducible rfl)
                try simp only [Act.put, List.setIfInBounds_toArray, List.set_cons_zero, List.set_cons_succ]
                refine wpAnyH_take (i := 24) (v := ?_) rfl (by kernel_rfl) (by kernel_rfl) (by kernel_rfl) (fun _ _ _ h => h) (Or.inl ⟨by rfl, ?hy⟩) (by assumption) ?_
                case hy => (intro w hSw; (try dsimp only at hSw); go_simp; all_goals with_reducible rfl)
                try simp only [Act.put, List.setIfInBounds_toArray, List.set_cons_zero, List.set_cons_succ]
                refine wpAnyH_ready (rs := [25]) (by kernel_rfl) (by simp) (AllReadyH.cons rfl (fun K hK => ?_) AllReadyH.nil)
                (go_simp; (go_at_call 12; go_must (refine (works_any _).mono ?_; rintro e w10 ⟨rfl, hb10⟩)); have hG10 := hG9.below hb10 hG9.lt; have hs10 := hs9.below hb10 hs9.lt; have hbw10 := hbw9.trans (hb10.mono hbw9.size))
                refine hK.out _ _ ?_ (fun hHeld => ?_)
                · exact hS5 _ hs10 hG10
                clear hK K
                try simp only [Act.put, List.setIfInBounds_toArray, List.set_cons_zero, List.set_cons_succ]
                refine wpAnyH_take (i := 26) (v := ?_) rfl (by kernel_rfl) (by kernel_rfl) (by kernel_rfl) (fun _ _ _ h => h) (Or.inl ⟨by rfl, ?hy⟩) (by assumption) ?_
                case hy => (intro w hSw; (try dsimp only at hSw); go_simp; all_goals with_reducible rfl)
                try simp only [Act.put, List.setIfInBounds_toArray, List.set_cons_zero, List.set_cons_succ]
                refine wpAnyH_take (i := 27) (v := ?_) rfl (by kernel_rfl) (by kernel_rfl) (by kernel_rfl) (fun _ _ _ h => h) (Or.inl ⟨by rfl, ?hy⟩) (by assumption) ?_
                case hy => (intro w hSw; (try dsimp only at hSw); go_simp; all_goals with_reducible rfl)
                try simp only [Act.put, List.setIfInBounds_toArray, List.set_cons_zero, List.set_cons_succ]
                refine wpAnyH_done (by kernel_rfl) ?_ _
                (go_simp; go_wp2_with fail; go_ret; first | exact ⟨rfl, hbw10⟩ | exact ⟨(by simp), hbw10⟩ | exact ⟨ret_bool (by simp), hbw10⟩)
            · go_simp
              have hG8 := Blk.new (w5.drew) 51 #[.slice none 0 0, .int .i64 0, .int .i64 0]
              have hbk8 : Below w5.heap.size w5 ((w5.drew).alloc (.cells #[.slice none 0 0, .int .i64 0, .int .i64 0] 51)) := hbk0.alloc hbk0.size _
              obtain ⟨G, hGe, hGl⟩ : ∃ G, G = w5.heap.size ∧ w5.heap.size ≤ G := ⟨_, rfl, hbk0.size⟩
              have hG8 : Blk ((w5.drew).alloc (.cells #[.slice none 0 0, .int .i64 0, .int .i64 0] 51)) w5.heap.size 51 #[.slice none 0 0, .int .i64 0, .int .i64 0] := hG8
              rw [← hGe] at hG8
              simp only [← hGe]
              clear hGe
              refine hK.out _ _ ?_ (fun hHeld => ?_)
              · exact hS4 _ hbk8
              clear hK K
              try simp only [Act.put, List.setIfInBounds_toArray, List.set_cons_zero, List.set_cons_succ]
              refine wpAnyH_ready (rs := [1]) (by kernel_rfl) (by simp) (AllReadyH.cons rfl (fun K hK => ?_) AllReadyH.nil)
              go_simp
              (go_at_call 27; go_must (refine (rnew_any _).mono ?_; rintro e wN9 ⟨rfl, hbN9⟩))
              have hbk9 := hbk8.trans (hbN9.mono hbk8.size)
              have hG9 := hG8.below hbN9 hG8.lt
              refine hK.out _ _ ?_ (fun hHeld => ?_)
              · exact hS4 _ hbk9
              clear hK K
              try simp only [Act.put, List.setIfInBounds_toArray, List.set_cons_zero, List.set_cons_succ]
              refine wpAnyH_ready (rs := [3]) (by kernel_rfl) (by simp) (AllReadyH.cons rfl (fun K hK => ?_) AllReadyH.nil)
              go_simp
              (go_at_call 26; go_must (refine (rdo_any wh hwh (d := ⟨l.map adat, 0, false, 0⟩) (c := c) (mc := mc) (z := z) (name := name) (tn := tn) (bs := bs) _ ((hdv5.below (hbk9.mono hz5)).more (Nat.le_trans hz5 hbk9.size)) (by omega) hflS hs1 hs2 ((hM5.below (hbk9.mono hz5)).more (Nat.le_trans hz5 hbk9.size)) (by omega) (Int.le_refl 0) (by show (0 : Int) ≤ 1000000000; decide) (Int.le_refl 0) (by show (0 : Int) ≤ 9223372036854775807; decide)).mono ?_; rintro e wD10 ⟨⟨A6, n6, c6, rfl, hro10⟩, hbD10⟩))
              have hRLa10 : RL w.heap.size wN9 A n c (l.map adat) := .inl (hdv5.below (hbk9.mono hz5))
              have hRL10 := hRLa10.out hbD10 (Nat.le_trans hz5 hbk9.size) hro10
              have hbk10 := hbk9.trans (hbD10.mono hbk9.size)
              have hG10 := hG9.below hbD10 hG9.lt
              refine hK.out _ _ ?_ (fun hHeld => ?_)
              · exact hS4 _ hbk10
              clear hK K
              try simp only [Act.put, List.setIfInBounds_toArray, List.set_cons_zero, List.set_cons_succ]
              refine wpAnyH_take (i := 4) (v := ?_) rfl (by kernel_rfl) (by kernel_rfl) (by kernel_rfl) (fun _ _ _ h => h) (Or.inl ⟨by rfl, ?hy⟩) (by assumption) ?_
              case hy => (intro w hSw; (try dsimp only at hSw); go_simp; all_goals with_reducible rfl)
              try simp only [Act.put, List.setIfInBounds_toArray, List.set_cons_zero, List.set_cons_succ]
              refine wpAnyH_take (i := 5) (v := ?_) rfl (by kernel_rfl) (by kernel_rfl) (by kernel_rfl) (fun _ _ _ h => h) (Or.inl ⟨by rfl, ?hy⟩) (by assumption) ?_
              case hy => (intro w hSw; (try dsimp only at hSw); go_simp; all_goals with_reducible rfl)
              try simp only [Act.put, List.setIfInBounds_toArray, List.set_cons_zero, List.set_cons_succ]
              refine wpAnyH_take (i := 6) (v := ?_) rfl (by kernel_rfl) (by kernel_rfl) (by kernel_rfl) (fun _ _ _ h => h) (Or.inl ⟨by rfl, ?hy⟩) (by assumption) ?_
              case hy => (intro w hSw; (try dsimp only at hSw); go_simp; all_goals with_reducible rfl)
              try simp only [Act.put, List.setIfInBounds_toArray, List.set_cons_zero, List.set_cons_succ]
              refine wpAnyH_ready (rs := [8]) (by kernel_rfl) (by simp) (AllReadyH.cons rfl (fun K hK => ?_) AllReadyH.nil)
              have g0 := hG10.cell 0
              have g1 := hG10.cell 1
              have g2 := hG10.cell 2
              have gf := fun i => hG10.frozen i
              go_simp
              clear g0 g1 g2 gf
              have hG11 := ((hG10.set_ 0 (.slice A6 n6 c6)).set_ 1 (.int .i64 (stepD ⟨l.map adat, 0, false, 0⟩ name (cmdOf wh tn bs z)).st)).set_ 2 (.int .i64 (leftR (stepD ⟨l.map adat, 0, false, 0⟩ name (cmdOf wh tn bs z))))
              have hbk11 := ((hbk10.setCell (p := ⟨G, 0, none⟩) hGl (.slice A6 n6 c6)).setCell (p := ⟨G, 1, none⟩) hGl (.int .i64 (stepD ⟨l.map adat, 0, false, 0⟩ name (cmdOf wh tn bs z)).st)).setCell (p := ⟨G, 2, none⟩) hGl (.int .i64 (leftR (stepD ⟨l.map adat, 0, false, 0⟩ name (cmdOf wh tn bs z))))
              have hRL11 := ((hRL10.far (i := 0) hG10 (by decide) (Nat.le_trans hz5 hGl) (.slice A6 n6 c6)).far (i := 1) (hG10.set_ 0 (.slice A6 n6 c6)) (by decide) (Nat.le_trans hz5 hGl) (.int .i64 (stepD ⟨l.map adat, 0, false, 0⟩ name (cmdOf wh tn bs z)).st)).far (i := 2) ((hG10.set_ 0 (.slice A6 n6 c6)).set_ 1 (.int .i64 (stepD ⟨l.map adat, 0, false, 0⟩ name (cmdOf wh tn bs z)).st)) (by decide) (Nat.le_trans hz5 hGl) (.int .i64 (leftR (stepD ⟨l.map adat, 0, false, 0⟩ name (cmdOf wh tn bs z))))
              refine hK.out _ _ ?_ (fun hHeld => ?_)
              · exact hS4 _ hbk11
              clear hK K
              try simp only [Act.put, List.setIfInBounds_toArray, List.set_cons_zero, List.set_cons_succ]
              refine wpAnyH_take (i := 9) (v := ?_) rfl (by kernel_rfl) (by kernel_rfl) (by kernel_rfl) (fun _ _ _ h => h) (Or.inl ⟨by rfl, ?hy⟩) (by assumption) ?_
              case hy => (intro w hSw; (try dsimp only at hSw); go_simp; all_goals with_reducible rfl)
              try simp only [Act.put, List.setIfInBounds_toArray, List.set_cons_zero, List.set_cons_succ]
              refine wpAnyH_done (by kernel_rfl) ?_ _
              have hG6 := hG11
              have hb56 := hbk11
              have hRL6 := hRL11
              have hGle := hGl
              clear hHeld hG11 hbk11 hRL11
              obtain ⟨w6, hw6⟩ : ∃ w6, w6 = ((((wD10).setCell ⟨G, 0, none⟩ (.slice A6 n6 c6)).setCell ⟨G, 1, none⟩ (.int .i64 (stepD ⟨l.map adat, 0, false, 0⟩ name (cmdOf wh tn bs z)).st)).setCell ⟨G, 2, none⟩ (.int .i64 (leftR (stepD ⟨l.map adat, 0, false, 0⟩ name (cmdOf wh tn bs z))))) := ⟨_, rfl⟩
              rw [← hw6] at hG6 hb56 hRL6
              rw [← hw6]
              clear hw6
              have hGd := hG6.cell 0
              have hd6 := hd5.below hb56
              have hM6 := hM5.below (hb56.mono hz5)
              have hs6 := hs5.below hb56 hs5.lt
              have hz6 := Nat.le_trans hz5 hb56.size
              have hz46' := Nat.le_trans hz45 hb56.size
              have hbw6 : Below w.heap.size w w6 := hbw5.trans (hb56.mono hz5)
              have hG6 : Blk w6 G 51 #[.slice A6 n6 c6, .int .i64 (stepD ⟨l.map adat, 0, false, 0⟩ name (cmdOf wh tn bs z)).st, .int .i64 (leftR (stepD ⟨l.map adat, 0, false, 0⟩ name (cmdOf wh tn bs z)))] := hG6
              clear hGd hS4 hdv5 hM5 hs5 hbw5 hb56 hGle
              have hS5 : ∀ w', Blk w' w.heap.size 48 (rstepV wh name tn M m mc z) → Blk w' G 51 #[.slice A6 n6 c6, .int .i64 (stepD ⟨l.map adat, 0, false, 0⟩ name (cmdOf wh tn bs z)).st, .int .i64 (leftR (stepD ⟨l.map adat, 0, false, 0⟩ name (cmdOf wh tn bs z)))] → ((w'.cell? ⟨w.heap.size, 0, none⟩ = some (.int .i64 wh) ∧ w'.cell? ⟨w.heap.size, 1, none⟩ = some (.string name) ∧ w'.cell? ⟨w.heap.size, 2, none⟩ = some (.string tn) ∧ w'.cell? ⟨w.heap.size, 3, none⟩ = some (.slice M m mc) ∧ w'.cell? ⟨w.heap.size, 4, none⟩ = some (.int .i64 z)) ∧ w'.cell? ⟨G, 0, none⟩ = some (.slice A6 n6 c6) ∧ w'.cell? ⟨G, 1, none⟩ = some (.int .i64 (stepD ⟨l.map adat, 0, false, 0⟩ name (cmdOf wh tn bs z)).st)) := fun w' h1 h2 => ⟨⟨h1.cell 0, h1.cell 1, h1.cell 2, h1.cell 3, h1.cell 4⟩, h2.cell 0, h2.cell 1⟩
              have hz46 : w4.heap.size ≤ w6.drew.heap.size := hz46'
              have hEE : (errP ⟨l.map adat, 0, false, 0⟩ name (cmdOf wh tn bs z) == errP ⟨l.map adat, 0, false, 0⟩ name (cmdOf wh tn bs z)) = true := by simp
              have hTT : ((stepD ⟨l.map adat, 0, false, 0⟩ name (cmdOf wh tn bs z)).st == (stepD ⟨l.map adat, 0, false, 0⟩ name (cmdOf wh tn bs z)).st) = true := by simp
              go_wp2_with fail
              refine wp_region_held_drew (S := (fun w' => (w'.cell? ⟨w.heap.size, 0, none⟩ = some (.int .i64 wh) ∧ w'.cell? ⟨w.heap.size, 1, none⟩ = some (.string name) ∧ w'.cell? ⟨w.heap.size, 2, none⟩ = some (.string tn) ∧ w'.cell? ⟨w.heap.size, 3, none⟩ = some (.slice M m mc) ∧ w'.cell? ⟨w.heap.size, 4, none⟩ = some (.int .i64 z)) ∧ w'.cell? ⟨G, 0, none⟩ = some (.slice A6 n6 c6) ∧ w'.cell? ⟨G, 1, none⟩ = some (.int .i64 (stepD ⟨l.map adat, 0, false, 0⟩ name (cmdOf wh tn bs z)).st))) (by kernel_rfl) ?_ (fun hHeld => ?_)
              · exact hS5 _ hs6 hG6
              refine wpAnyH_take (i := 0) (v := ?_) rfl (by kernel_rfl) (by kernel_rfl) (by kernel_rfl) (fun _ _ _ h => h) (Or.inl ⟨by rfl, ?hy⟩) (by assumption) ?_
              case hy => (intro w hSw; (try dsimp only at hSw); go_simp; all_goals with_reducible rfl)
              try simp only [Act.put, List.setIfInBounds_toArray, List.set_cons_zero, List.set_cons_succ]
              refine wpAnyH_ready (rs := [1]) (by kernel_rfl) (by simp) (AllReadyH.cons rfl (fun K hK => ?_) AllReadyH.nil)
              (go_simp; (go_at_call 16; refine (num_any _ _).mono ?_; rintro e w60 ⟨rfl, rfl⟩))
              refine hK.out _ _ ?_ (fun hHeld => ?_)
              · exact hS5 _ hs6 hG6
              clear hK K
              try simp only [Act.put, List.setIfInBounds_toArray, List.set_cons_zero, List.set_cons_succ]
              refine wpAnyH_take (i := 2) (v := ?_) rfl (by kernel_rfl) (by kernel_rfl) (by kernel_rfl) (fun _ _ _ h => h) (Or.inl ⟨by rfl, ?hy⟩) (by assumption) ?_
              case hy => (intro w hSw; (try dsimp only at hSw); go_simp; all_goals with_reducible rfl)
              try simp only [Act.put, List.setIfInBounds_toArray, List.set_cons_zero, List.set_cons_succ]
              refine wpAnyH_take (i := 3) (v := ?_) rfl (by kernel_rfl) (by kernel_rfl) (by kernel_rfl) (fun _ _ _ h => h) (Or.inl ⟨by rfl, ?hy⟩) (by assumption) ?_
              case hy => (intro w hSw; (try dsimp only at hSw); go_simp; all_goals with_reducible rfl)
              try simp only [Act.put, List.setIfInBounds_toArray, List.set_cons_zero, List.set_cons_succ]
              refine wpAnyH_take (i := 4) (v := ?_) rfl (by kernel_rfl) (by kernel_rfl) (by kernel_rfl) (fun _ _ _ h => h) (Or.inl ⟨by rfl, ?hy⟩) (by assumption) ?_
              case hy => (intro w hSw; (try dsimp only at hSw); go_simp; all_goals with_reducible rfl)
              try simp only [Act.put, List.setIfInBounds_toArray, List.set_cons_zero, List.set_cons_succ]
              refine wpAnyH_take (i := 5) (v := ?_) rfl (by kernel_rfl) (by kernel_rfl) (by kernel_rfl) (fun _ _ _ h => h) (Or.inl ⟨by rfl, ?hy⟩) (by assumption) ?_
              case hy => (intro w hSw; (try dsimp only at hSw); go_simp; all_goals with_reducible rfl)
              try simp only [Act.put, List.setIfInBounds_toArray, List.set_cons_zero, List.set_cons_succ]
              refine wpAnyH_take (i := 7) (v := ?_) rfl (by kernel_rfl) (by kernel_rfl) (by kernel_rfl) (fun _ _ _ h => h) (Or.inl ⟨by rfl, ?hy⟩) (by assumption) ?_
              case hy => (intro w hSw; (try dsimp only at hSw); go_simp; all_goals with_reducible rfl)
              try simp only [Act.put, List.setIfInBounds_toArray, List.set_cons_zero, List.set_cons_succ]
              refine wpAnyH_ready (rs := [6]) (by kernel_rfl) (by simp) (AllReadyH.cons rfl (fun K hK => ?_) AllReadyH.nil)
              (go_simp; (go_at_call 28; go_must (refine (ldo_any wh hwh (mc := mc) (z := z) (tn := tn) (bs := bs) w6.drew (show DKd w4.heap.size w6.drew g r ⟨l.map adat, 0, false, 0⟩ from hd6) ⟨hz46, hs1, Int.le_refl 0, (by show (0 : Int) ≤ 1000000000; decide), Int.le_refl 0, (by show (0 : Int) ≤ 9223372036854775807; decide)⟩ hs2 (show Reads w6.drew w6.drew.heap.size 1 M m (bvs bs) from hM6.more hz6) (by omega) (fun x hx => (hflS x hx).1)).mono ?_; rintro e w7 ⟨rfl, hd7, hbk7⟩)); have hG7 : Blk w7 G 51 _ := hbk7.2 _ _ _ hG6 (by decide) (by decide) (by decide); have hs7 : Blk w7 w.heap.size 48 _ := hbk7.2 _ _ _ hs6 (by decide) (by decide) (by decide); have hRL7 := (show RL w.heap.size w6.drew A6 n6 c6 _ from hRL6).keep hbk7 hz4; have hbw7 : Below w.heap.size w w7 := hbw6.drew.trans (hbk7.1.mono hz4))
              refine hK.out _ _ ?_ (fun hHeld => ?_)
              · exact hS5 _ hs7 hG7
              clear hK K
              try simp only [Act.put, List.setIfInBounds_toArray, List.set_cons_zero, List.set_cons_succ]
              refine wpAnyH_take (i := 8) (v := ?_) rfl (by kernel_rfl) (by kernel_rfl) (by kernel_rfl) (fun _ _ _ h => h) (Or.inl ⟨by rfl, ?hy⟩) (by assumption) ?_
              case hy => (intro w hSw; (try dsimp only at hSw); go_simp; all_goals with_reducible rfl)
              try simp only [Act.put, List.setIfInBounds_toArray, List.set_cons_zero, List.set_cons_succ]
              refine wpAnyH_take (i := 9) (v := ?_) rfl (by kernel_rfl) (by kernel_rfl) (by kernel_rfl) (fun _ _ _ h => h) (Or.inl ⟨by rfl, ?hy⟩) (by assumption) ?_
              case hy => (intro w hSw; (try dsimp only at hSw); go_simp; all_goals with_reducible rfl)
              try simp only [Act.put, List.setIfInBounds_toArray, List.set_cons_zero, List.set_cons_succ]
              refine wpAnyH_take (i := 10) (v := ?_) rfl (by kernel_rfl) (by kernel_rfl) (by kernel_rfl) (fun _ _ _ h => h) (Or.inl ⟨by rfl, ?hy⟩) (by assumption) ?_
              case hy => (intro w hSw; (try dsimp only at hSw); go_simp; all_goals with_reducible rfl)
              try simp only [Act.put, List.setIfInBounds_toArray, List.set_cons_zero, List.set_cons_succ]
              refine wpAnyH_take (i := 11) (v := ?_) rfl (by kernel_rfl) (by kernel_rfl) (by kernel_rfl) (fun _ _ _ h => h) (Or.inl ⟨by rfl, ?hy⟩) (by assumption) ?_
              case hy => (intro w hSw; (try dsimp only at hSw); go_simp; all_goals with_reducible rfl)
              try simp only [Act.put, List.setIfInBounds_toArray, List.set_cons_zero, List.set_cons_succ]
              refine wpAnyH_take (i := 13) (v := ?_) rfl (by kernel_rfl) (by kernel_rfl) (by kernel_rfl) (fun _ _ _ h => h) (Or.inl ⟨by rfl, ?hy⟩) (by assumption) ?_
              case hy => (intro w hSw; (try dsimp only at hSw); go_simp; all_goals with_reducible rfl)
              try simp only [Act.put, List.setIfInBounds_toArray, List.set_cons_zero, List.set_cons_succ]
              refine wpAnyH_take (i := 14) (v := ?_) rfl (by kernel_rfl) (by kernel_rfl) (by kernel_rfl) (fun _ _ _ h => h) (Or.inl ⟨by rfl, ?hy⟩) (by assumption) ?_
              case hy => (intro w hSw; (try dsimp only at hSw); go_simp; all_goals with_reducible rfl)
              try simp only [Act.put, List.setIfInBounds_toArray, List.set_cons_zero, List.set_cons_succ]
              refine wpAnyH_ready (rs := [12]) (by kernel_rfl) (by simp) (AllReadyH.cons rfl (fun K hK => ?_) AllReadyH.nil)
              (go_simp; (go_at_call 20; go_must (refine (files_s w7 hd7 hFit1).mono ?_; rintro e w8 ⟨v8, rfl, hown8, hb8⟩)); obtain ⟨A8, n8, c8, rfl⟩ := own_sliceN hown8; have HN8 : Hid (n8 = (stepD ⟨l.map adat, 0, false, 0⟩ name (cmdOf wh tn bs z)).l.length) := own_len3 hown8; rw [← HN8.out] at hown8; have hG8 := hG7.below hb8 hG7.lt; have hs8 := hs7.below hb8 hs7.lt; have hd8 := hd7.below hb8; have hRL8 := hRL7.below hb8 hbw7.size; have hbw8 := hbw7.trans (hb8.mono hbw7.size))
              refine hK.out _ _ ?_ (fun hHeld => ?_)
              · exact hS5 _ hs8 hG8
              clear hK K
              try simp only [Act.put, List.setIfInBounds_toArray, List.set_cons_zero, List.set_cons_succ]
              refine wpAnyH_ready (rs := [15]) (by kernel_rfl) (by simp) (AllReadyH.cons rfl (fun K hK => ?_) AllReadyH.nil)
              (go_simp; (go_at_call 17; go_must (have hrA := Reads.of_own3 hown8; have hrB := hRL8.reads hbw8.size; have hnn : n6 = n8 := (by have h1 := hRL8.len; have h2 := HN8.out; omega); subst hnn; rw [dvs_afs] at hrA hrB; refine (rsame_yes (c := c8) (c' := c6) w8 hrA hrB (by have h1 := hFit1.num; have h2 := HN8.out; omega)).mono ?_; rintro e w9 ⟨rfl, hb9⟩)); have hG9 := hG8.below hb9 hG8.lt; have hs9 := hs8.below hb9 hs8.lt; have hd9 := hd8.below hb9; have hbw9 := hbw8.trans (hb9.mono hbw8.size))
              refine hK.out _ _ ?_ (fun hHeld => ?_)
              · exact hS5 _ hs9 hG9
              clear hK K
              try simp only [Act.put, List.setIfInBounds_toArray, List.set_cons_zero, List.set_cons_succ]
              refine wpAnyH_take (i := 16) (v := ?_) rfl (by kernel_rfl) (by kernel_rfl) (by kernel_rfl) (fun _ _ _ h => h) (Or.inl ⟨by rfl, ?hy⟩) (by assumption) ?_
              case hy => (intro w hSw; (try dsimp only at hSw); go_simp; all_goals with_reducible rfl)
              try simp only [Act.put, List.setIfInBounds_toArray, List.set_cons_zero, List.set_cons_succ]
              refine wpAnyH_take (i := 17) (v := ?_) rfl (by kernel_rfl) (by kernel_rfl) (by kernel_rfl) (fun _ _ _ h => h) (Or.inl ⟨by rfl, ?hy⟩) (by assumption) ?_
              case hy => (intro w hSw; (try dsimp only at hSw); go_simp; all_goals with_reducible rfl)
              try simp only [Act.put, List.setIfInBounds_toArray, List.set_cons_zero, List.set_cons_succ]
              refine wpAnyH_take (i := 18) (v := ?_) rfl (by kernel_rfl) (by kernel_rfl) (by kernel_rfl) (fun _ _ _ h => h) (Or.inl ⟨by rfl, ?hy⟩) (by assumption) ?_
              case hy => (intro w hSw; (try dsimp only at hSw); go_simp; all_goals with_reducible rfl)
              try simp only [Act.put, List.setIfInBounds_toArray, List.set_cons_zero, List.set_cons_succ]
              refine wpAnyH_take (i := 20) (v := ?_) rfl (by kernel_rfl) (by kernel_rfl) (by kernel_rfl) (fun _ _ _ h => h) (Or.inl ⟨by rfl, ?hy⟩) (by assumption) ?_
              case hy => (intro w hSw; (try dsimp only at hSw); go_simp; all_goals with_reducible rfl)
              try simp only [Act.put, List.setIfInBounds_toArray, List.set_cons_zero, List.set_cons_succ]
              refine wpAnyH_take (i := 21) (v := ?_) rfl (by kernel_rfl) (by kernel_rfl) (by kernel_rfl) (fun _ _ _ h => h) (Or.inl ⟨by rfl, ?hy⟩) (by assumption) ?_
              case hy => (intro w hSw; (try dsimp only at hSw); go_simp; all_goals with_reducible rfl)
              try simp only [Act.put, List.setIfInBounds_toArray, List.set_cons_zero, List.set_cons_succ]
              refine wpAnyH_ready (rs := [19]) (by kernel_rfl) (by simp) (AllReadyH.cons rfl (fun K hK => ?_) AllReadyH.nil)
              (go_simp; (go_at_call 21; go_must (refine (steps_s w9 hd9).mono ?_; rintro e w91 ⟨rfl, rfl⟩)))
              refine hK.out _ _ ?_ (fun hHeld => ?_)
              · exact hS5 _ hs9 hG9
              clear hK K
              try simp only [Act.put, List.setIfInBounds_toArray, List.set_cons_zero, List.set_cons_succ]
              refine wpAnyH_take (i := 22) (v := ?_) rfl (by kernel_rfl) (by kernel_rfl) (by kernel_rfl) (fun _ _ _ h => h) (Or.inl ⟨by rfl, ?hy⟩) (by assumption) ?_
              case hy => (intro w hSw; (try dsimp only at hSw); go_simp; all_goals with_reducible rfl)
              try simp only [Act.put, List.setIfInBounds_toArray, List.set_cons_zero, List.set_cons_succ]
              refine wpAnyH_take (i := 23) (v := ?_) rfl (by kernel_rfl) (by kernel_rfl) (by kernel_rfl) (fun _ _ _ h => h) (Or.inl ⟨by rfl, ?hy⟩) (by assumption) ?_
              case hy => (intro w hSw; (try dsimp only at hSw); go_simp; all_goals with_reducible rfl)
              try simp only [Act.put, List.setIfInBounds_toArray, List.set_cons_zero, List.set_cons_succ]
              refine wpAnyH_take (i := 24) (v := ?_) rfl (by kernel_rfl) (by kernel_rfl) (by kernel_rfl) (fun _ _ _ h => h) (Or.inl ⟨by rfl, ?hy⟩) (by assumption) ?_
              case hy => (intro w hSw; (try dsimp only at hSw); go_simp; all_goals with_reducible rfl)
              try simp only [Act.put, List.setIfInBounds_toArray, List.set_cons_zero, List.set_cons_succ]
              refine wpAnyH_ready (rs := [25]) (by kernel_rfl) (by simp) (AllReadyH.cons rfl (fun K hK => ?_) AllReadyH.nil)
              (go_simp; (go_at_call 12; go_must (refine (works_any _).mono ?_; rintro e w10 ⟨rfl, hb10⟩)); have hG10 := hG9.below hb10 hG9.lt; have hs10 := hs9.below hb10 hs9.lt; have hbw10 := hbw9.trans (hb10.mono hbw9.size))
              refine hK.out _ _ ?_ (fun hHeld => ?_)
              · exact hS5 _ hs10 hG10
              clear hK K
              try simp only [Act.put, List.setIfInBounds_toArray, List.set_cons_zero, List.set_cons_succ]
              refine wpAnyH_take (i := 26) (v := ?_) rfl (by kernel_rfl) (by kernel_rfl) (by kernel_rfl) (fun _ _ _ h => h) (Or.inl ⟨by rfl, ?hy⟩) (by assumption) ?_
              case hy => (intro w hSw; (try dsimp only at hSw); go_simp; all_goals with_reducible rfl)
              try simp only [Act.put, List.setIfInBounds_toArray, List.set_cons_zero, List.set_cons_succ]
              refine wpAnyH_take (i := 27) (v := ?_) rfl (by kernel_rfl) (by kernel_rfl) (by kernel_rfl) (fun _ _ _ h => h) (Or.inl ⟨by rfl, ?hy⟩) (by assumption) ?_
              case hy => (intro w hSw; (try dsimp only at hSw); go_simp; all_goals with_reducible rfl)
              try simp only [Act.put, List.setIfInBounds_toArray, List.set_cons_zero, List.set_cons_succ]
              refine wpAnyH_done (by kernel_rfl) ?_ _
              (go_simp; go_wp2_with fail; go_ret; first | exact ⟨rfl, hbw10⟩ | exact ⟨(by simp), hbw10⟩ | exact ⟨ret_bool (by simp), hbw10⟩)
          · obtain ⟨Z, hZ⟩ : ∃ Z, Z = chkF l := ⟨_, rfl⟩
            rw [← hZ] at hck HCK0
            have HCK := hide HCK0
            have hZ0 : (Z != 0) = true := by simpa using hck
            clear HCK0 hck hZ
            go_wp2_with (first
              | (go_at_call 13; go_must (refine HF.out.mono ?_; rintro e w1 ⟨rfl, hb1⟩; have hs1b := hsb.below hb1 hsb.lt; have c0 : w1.cell? ⟨w.heap.size, 0, none⟩ = some (.int .i64 wh) := hs1b.cell 0; have c1 : w1.cell? ⟨w.heap.size, 1, none⟩ = some (.string name) := hs1b.cell 1; have c2 : w1.cell? ⟨w.heap.size, 2, none⟩ = some (.string tn) := hs1b.cell 2; have c3 : w1.cell? ⟨w.heap.size, 3, none⟩ = some (.slice M m mc) := hs1b.cell 3; have c4 : w1.cell? ⟨w.heap.size, 4, none⟩ = some (.int .i64 z) := hs1b.cell 4))
              | (go_at_call 25; go_must (refine (HSm.out _).mono ?_; rintro e w2 ⟨rfl, hb2⟩; have hs2b := hs1b.below hb2 hs1b.lt; have e0 : w2.cell? ⟨w.heap.size, 0, none⟩ = some (.int .i64 wh) := hs2b.cell 0; have e1 : w2.cell? ⟨w.heap.size, 1, none⟩ = some (.string name) := hs2b.cell 1; have e2 : w2.cell? ⟨w.heap.size, 2, none⟩ = some (.string tn) := hs2b.cell 2; have e3 : w2.cell? ⟨w.heap.size, 3, none⟩ = some (.slice M m mc) := hs2b.cell 3; have e4 : w2.cell? ⟨w.heap.size, 4, none⟩ = some (.int .i64 z) := hs2b.cell 4; clear c0 c1 c2 c3 c4))
              | (go_at_call 15; go_must (refine (HCK.out w2 ((((hr0.below (hb1.mono hb0.size)).below (hb2.mono (Nat.le_trans hb0.size hb1.size)))).more (Nat.le_trans (Nat.le_trans hb0.size hb1.size) hb2.size))).mono ?_; rintro e w3 ⟨rfl, hb3⟩))
              | (go_at_call 12; go_must (refine (works_any _).mono ?_; rintro e w4 ⟨rfl, hb4⟩))
              | fail)
            go_ret
            exact ⟨rfl, hb0.trans ((hb1.trans ((hb2.trans ((hb3.trans (hb4.mono hb3.size)).mono hb2.size)).mono hb1.size)).mono hb0.size)⟩
end Go.Proofs.Ytaaaljpnhfmbpaa
