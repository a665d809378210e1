/- The walk of the law DiskCrashes (package taborlaw02). Conditions: those of the theorem. (Printed by wip/gen_dkcs.py.) -/
import Derived.Test.YtaaaljpnhfmbpaaDkFit
import Derived.Test.YtaaaljpnhfmbpaaDkN
import Derived.Deep.RegionHeld3
import Derived.Deep.DeepCutAuto
import Derived.Test.YtaaaljpnhfmbpaaDkCq
import Derived.Test.YtaaaljpnhfmbpaaDkMc
namespace Go.Proofs.Ytaaaljpnhfmbpaa
open Go.RowKit Go.Shelf
set_option linter.unusedVariables false
set_option linter.unusedSimpArgs false

set_option maxHeartbeats 16000000 in
set_option maxRecDepth 100000 in
theorem diskCrashes_any (A : Option Addr) (n c : Nat) (l : List AF) (what : Int) (name tn : ByteArray) (M : Option Addr) (m mc : Nat) (bs : List UInt8) (z : Int) (w : World) (hr : Reads w w.heap.size 3 A n (afs l)) (hn : n ≤ maxLen) (hs : ∀ x ∈ l, x.name.size ≤ 140737488351232 ∧ x.b.size ≤ 140737488351232) (hs1 : name.size ≤ 140737488351232) (hs2 : tn.size ≤ 140737488351232) (hM : Reads w w.heap.size 1 M m (bvs bs)) (K : Option Addr) (mk ck : Nat) (ks : List Int) (hKe : Reads w w.heap.size 1 K mk (ivs ks)) (hmk : mk ≤ maxLen) :
    Calls Try.prog 8 #[.slice A n c, .agg (rstepV what name tn M m mc z), .slice K mk ck] w fun e w' => e = .returned (.bool true) ∧ Below w.heap.size w w' := by
  have hsb := Blk.new w 48 (rstepV what name tn M m mc z)
  have hb0 : Below w.heap.size w (w.alloc (.cells (rstepV what name tn M m mc z) 48)) := (Below.refl _ w).alloc (Nat.le_refl _) _
  have hr0 := hr.below hb0
  have hM0 := hM.below hb0
  have hKe0 := hKe.below hb0
  have HL := hide hr.alen
  go_enter Try.func8, Try.ntmps8
  go_upto_region 1 with (fail)
  generalize w.alloc (.cells (rstepV what name tn M m mc z) 48) = w0 at *
  have HF := hide (few_any (c := c) w0 (hr0.more hb0.size) hn hs)
  clear hr hM hKe
  cases hd3 : decide (wsum l ≤ 3000) with
  | false =>
    rw [hd3] at HF
    go_wp2_with (first
      | (go_at_call 13; go_must (refine HF.out.mono ?_; rintro e w1 ⟨rfl, hb1⟩))
      | (go_at_call 12; go_must (refine (works_any _).mono ?_; rintro e w2 ⟨rfl, hb2⟩))
      | fail)
    go_ret
    exact ⟨rfl, hb0.trans ((hb1.trans (hb2.mono hb1.size)).mono hb0.size)⟩
  | true =>
    rw [hd3] at HF
    have hw1 := of_decide_eq_true hd3
    have hn3 : n ≤ 3000 := by have := wsum_len l; rw [HL.out] at this; omega
    have HSm := hide (fun w => small_any what name tn M m mc z w)
    cases hsm : (decide (name.size ≤ 200) && decide (tn.size ≤ 200) && decide (m ≤ 1000)) with
    | false =>
      rw [hsm] at HSm
      clear hd3 hw1
      go_wp2_with (first
        | (go_at_call 13; go_must (refine HF.out.mono ?_; rintro e w1 ⟨rfl, hb1⟩; have hs1b := hsb.below hb1 hsb.lt; have c0 : w1.cell? ⟨w.heap.size, 0, none⟩ = some (.int .i64 what) := hs1b.cell 0; have c1 : w1.cell? ⟨w.heap.size, 1, none⟩ = some (.string name) := hs1b.cell 1; have c2 : w1.cell? ⟨w.heap.size, 2, none⟩ = some (.string tn) := hs1b.cell 2; have c3 : w1.cell? ⟨w.heap.size, 3, none⟩ = some (.slice M m mc) := hs1b.cell 3; have c4 : w1.cell? ⟨w.heap.size, 4, none⟩ = some (.int .i64 z) := hs1b.cell 4))
        | (go_at_call 25; go_must (refine (HSm.out _).mono ?_; rintro e w2 ⟨rfl, hb2⟩))
        | (go_at_call 12; go_must (refine (works_any _).mono ?_; rintro e w3 ⟨rfl, hb3⟩))
        | fail)
      go_ret
      exact ⟨rfl, hb0.trans ((hb1.trans ((hb2.trans (hb3.mono hb2.size)).mono hb1.size)).mono hb0.size)⟩
    | true =>
      rw [hsm] at HSm
      have hm1 : m ≤ 1000 := by
        simp only [Bool.and_eq_true, decide_eq_true_eq] at hsm
        exact hsm.2
      clear hd3 hw1 hsm
      by_cases hw0 : what < 0
      · have d0 : decide (what < 0) = true := decide_eq_true hw0
        clear hw0
        go_wp2_with (first
          | (go_at_call 13; go_must (refine HF.out.mono ?_; rintro e w1 ⟨rfl, hb1⟩; have hs1b := hsb.below hb1 hsb.lt; have c0 : w1.cell? ⟨w.heap.size, 0, none⟩ = some (.int .i64 what) := hs1b.cell 0; have c1 : w1.cell? ⟨w.heap.size, 1, none⟩ = some (.string name) := hs1b.cell 1; have c2 : w1.cell? ⟨w.heap.size, 2, none⟩ = some (.string tn) := hs1b.cell 2; have c3 : w1.cell? ⟨w.heap.size, 3, none⟩ = some (.slice M m mc) := hs1b.cell 3; have c4 : w1.cell? ⟨w.heap.size, 4, none⟩ = some (.int .i64 z) := hs1b.cell 4))
          | (go_at_call 25; go_must (refine (HSm.out _).mono ?_; rintro e w2 ⟨rfl, hb2⟩; have hs2b := hs1b.below hb2 hs1b.lt; have e0 : w2.cell? ⟨w.heap.size, 0, none⟩ = some (.int .i64 what) := hs2b.cell 0; have e1 : w2.cell? ⟨w.heap.size, 1, none⟩ = some (.string name) := hs2b.cell 1; have e2 : w2.cell? ⟨w.heap.size, 2, none⟩ = some (.string tn) := hs2b.cell 2; have e3 : w2.cell? ⟨w.heap.size, 3, none⟩ = some (.slice M m mc) := hs2b.cell 3; have e4 : w2.cell? ⟨w.heap.size, 4, none⟩ = some (.int .i64 z) := hs2b.cell 4; clear c0 c1 c2 c3 c4))
          | (go_at_call 12; go_must (refine (works_any _).mono ?_; rintro e w4 ⟨rfl, hb4⟩))
          | fail)
        go_ret
        exact ⟨rfl, hb0.trans ((hb1.trans ((hb2.trans (hb4.mono hb2.size)).mono hb1.size)).mono hb0.size)⟩
      · have d0 : decide (what < 0) = false := decide_eq_false hw0
        by_cases hw4 : 4 < what
        · have d4 : decide ((4 : Int) < what) = true := decide_eq_true hw4
          clear hw0 hw4
          go_wp2_with (first
            | (go_at_call 13; go_must (refine HF.out.mono ?_; rintro e w1 ⟨rfl, hb1⟩; have hs1b := hsb.below hb1 hsb.lt; have c0 : w1.cell? ⟨w.heap.size, 0, none⟩ = some (.int .i64 what) := hs1b.cell 0; have c1 : w1.cell? ⟨w.heap.size, 1, none⟩ = some (.string name) := hs1b.cell 1; have c2 : w1.cell? ⟨w.heap.size, 2, none⟩ = some (.string tn) := hs1b.cell 2; have c3 : w1.cell? ⟨w.heap.size, 3, none⟩ = some (.slice M m mc) := hs1b.cell 3; have c4 : w1.cell? ⟨w.heap.size, 4, none⟩ = some (.int .i64 z) := hs1b.cell 4))
            | (go_at_call 25; go_must (refine (HSm.out _).mono ?_; rintro e w2 ⟨rfl, hb2⟩; have hs2b := hs1b.below hb2 hs1b.lt; have e0 : w2.cell? ⟨w.heap.size, 0, none⟩ = some (.int .i64 what) := hs2b.cell 0; have e1 : w2.cell? ⟨w.heap.size, 1, none⟩ = some (.string name) := hs2b.cell 1; have e2 : w2.cell? ⟨w.heap.size, 2, none⟩ = some (.string tn) := hs2b.cell 2; have e3 : w2.cell? ⟨w.heap.size, 3, none⟩ = some (.slice M m mc) := hs2b.cell 3; have e4 : w2.cell? ⟨w.heap.size, 4, none⟩ = some (.int .i64 z) := hs2b.cell 4; clear c0 c1 c2 c3 c4))
            | (go_at_call 12; go_must (refine (works_any _).mono ?_; rintro e w4 ⟨rfl, hb4⟩))
            | fail)
          go_ret
          exact ⟨rfl, hb0.trans ((hb1.trans ((hb2.trans (hb4.mono hb2.size)).mono hb1.size)).mono hb0.size)⟩
        · have d4 : decide ((4 : Int) < what) = false := decide_eq_false hw4
          obtain ⟨wh, rfl⟩ : ∃ wh : Nat, what = wh := ⟨what.toNat, by omega⟩
          have hwh : wh ≤ 4 := by omega
          have HCK0 := fun (w : World) (hr : Reads w w.heap.size 3 A n (afs l)) => rcheck_any (c := c) w hr (by omega) hs
          clear hw0 hw4
          by_cases hck : chkF l = 0
          · rw [hck] at HCK0
            have HCK := hide HCK0
            have HC := hide hck
            clear HCK0 hck
            go_upto_region 3 with (first
              | (go_at_call 13; go_must (refine HF.out.mono ?_; rintro e w1 ⟨rfl, hb1⟩; have hs1b := hsb.below hb1 hsb.lt; have c0 : w1.cell? ⟨w.heap.size, 0, none⟩ = some (.int .i64 wh) := hs1b.cell 0; have c1 : w1.cell? ⟨w.heap.size, 1, none⟩ = some (.string name) := hs1b.cell 1; have c2 : w1.cell? ⟨w.heap.size, 2, none⟩ = some (.string tn) := hs1b.cell 2; have c3 : w1.cell? ⟨w.heap.size, 3, none⟩ = some (.slice M m mc) := hs1b.cell 3; have c4 : w1.cell? ⟨w.heap.size, 4, none⟩ = some (.int .i64 z) := hs1b.cell 4))
              | (go_at_call 25; go_must (refine (HSm.out _).mono ?_; rintro e w2 ⟨rfl, hb2⟩; have hs2b := hs1b.below hb2 hs1b.lt; have e0 : w2.cell? ⟨w.heap.size, 0, none⟩ = some (.int .i64 wh) := hs2b.cell 0; have e1 : w2.cell? ⟨w.heap.size, 1, none⟩ = some (.string name) := hs2b.cell 1; have e2 : w2.cell? ⟨w.heap.size, 2, none⟩ = some (.string tn) := hs2b.cell 2; have e3 : w2.cell? ⟨w.heap.size, 3, none⟩ = some (.slice M m mc) := hs2b.cell 3; have e4 : w2.cell? ⟨w.heap.size, 4, none⟩ = some (.int .i64 z) := hs2b.cell 4; clear c0 c1 c2 c3 c4))
              | (go_at_call 15; go_must (refine (HCK.out w2 ((((hr0.below (hb1.mono hb0.size)).below (hb2.mono (Nat.le_trans hb0.size hb1.size)))).more (Nat.le_trans (Nat.le_trans hb0.size hb1.size) hb2.size))).mono ?_; rintro e w3 ⟨rfl, hb3⟩))
              | (go_at_call 12; go_must (refine (works_any _).mono ?_; rintro e w4 ⟨rfl, hb4⟩))
              | fail)
            obtain ⟨_, _, hrise, hoks⟩ := chk_ok l _ _ HC.out
            have HO := hide hoks
            have HRi := hide hrise
            have hbw3 : Below w.heap.size w w3 := hb0.trans ((hb1.trans ((hb2.trans (hb3.mono hb2.size)).mono hb1.size)).mono hb0.size)
            have hb03 : Below w0.heap.size w0 w3 := hb1.trans ((hb2.trans (hb3.mono hb2.size)).mono hb1.size)
            have hr3 := hr0.below (hb03.mono hb0.size)
            have hM3 := hM0.below (hb03.mono hb0.size)
            have hKe3 := hKe0.below (hb03.mono hb0.size)
            have hs3 := hsb.below hb03 hsb.lt
            have hz3 := hbw3.size
            obtain ⟨w4, hw4⟩ : ∃ w4, w4 = w3 := ⟨_, rfl⟩
            rw [← hw4] at hbw3 hr3 hM3 hKe3 hs3 hz3
            simp only [← hw4]
            have HW4 := hide hw4
            clear hw4 hrise hoks e0 e1 e2 e3 e4 hs1b hs2b hb0 hb1 hb2 hb3 hb03 hr0 hM0 hKe0 hsb HF HSm HCK
            have HFr := hide (from_any (c := c) w4 (hr3.more hz3) (by omega) hs)
            go_upto_region 4 with (first
              | (go_at_call 14
                 go_must (
                 refine HFr.out.mono ?_
                 rintro e w5 ⟨hor, hb5⟩
                 have hor2 : ∃ g r fs, e = .returned (.tuple #[.pointer (some ⟨g, 0, none⟩), .int .i64 0]) ∧ DK w4.heap.size w5 g r fs 0 false 0 ∧ fs.map fdat = l.map adat := by
                   rcases hor with ⟨h0, _⟩ | ⟨_, h⟩
                   · exact absurd HC.out h0
                   · exact h
                 obtain ⟨g, r, fs, rfl, hdk, hfs⟩ := hor2))
              | fail)
            obtain ⟨d0', hd0'⟩ : ∃ d0 : DS, d0 = ⟨l.map adat, 0, false, 0⟩ := ⟨_, rfl⟩
            have hd5 : DKd w4.heap.size w5 g r ⟨l.map adat, 0, false, 0⟩ := ⟨fs, hdk, by rw [hfs], HRi.out⟩
            have hK0 := fit_of HO.out hs (K := 3000) (by rw [HL.out]; exact hn3)
            have hflS : ∀ x ∈ (⟨l.map adat, 0, false, 0⟩ : DS).l, x.2.1.length ≤ 1048576 ∧ x.2.2 ≤ 1048576 := fun x hx => (hK0.all x hx).2
            have hFit1 : Fit (stepD ⟨l.map adat, 0, false, 0⟩ name (cmdOf wh tn bs z)).l := (FitK.step (d := ⟨l.map adat, 0, false, 0⟩) hK0 hs1 (fun t e => by rw [cmd_ren e]; exact hs2)).fit (by decide)
            have hbw5 : Below w.heap.size w w5 := hbw3.trans (hb5.mono hz3)
            have hdv5 : Reads w5 w.heap.size 3 A n (dvs (l.map adat)) := by
              rw [← afs_back HO.out]
              exact hr3.below (hb5.mono hz3)
            have hM5 := hM3.below (hb5.mono hz3)
            have hKe5 := hKe3.below (hb5.mono hz3)
            have hs5 := hs3.below hb5 hs3.lt
            have hz5 := hbw5.size
            have hz4 := hz3
            have hz45 := hb5.size
            clear hor hdk hfs HFr hbw3 hr3 hM3 hKe3 hs3 hb5 hz3 d0 d4 hd0'
            have hS4 : ∀ w', Below w5.heap.size w5 w' → (fun w' => w'.cell? ⟨w.heap.size, 0, none⟩ = some (.int .i64 wh) ∧ w'.cell? ⟨w.heap.size, 1, none⟩ = some (.string name) ∧ w'.cell? ⟨w.heap.size, 2, none⟩ = some (.string tn) ∧ w'.cell? ⟨w.heap.size, 3, none⟩ = some (.slice M m mc) ∧ w'.cell? ⟨w.heap.size, 4, none⟩ = some (.int .i64 z)) w' := fun w' hb => by
              have h := hs5.below hb hs5.lt
              exact ⟨h.cell 0, h.cell 1, h.cell 2, h.cell 3, h.cell 4⟩
            have hbk0 : Below w5.heap.size w5 w5.drew := (Below.refl _ w5).drew
            go_cut [9, 10] (fun s9 s10 wx => ∃ (G : Nat) (AA : Option Addr) (nn cc : Nat), s9 = .pointer (some ⟨G, 0, none⟩) ∧ s10 = .int .i64 (errP ⟨l.map adat, 0, false, 0⟩ name (cmdOf wh tn bs z)) ∧ Blk wx G 51 #[.slice AA nn cc, .int .i64 (stepD ⟨l.map adat, 0, false, 0⟩ name (cmdOf wh tn bs z)).st, .int .i64 (leftR (stepD ⟨l.map adat, 0, false, 0⟩ name (cmdOf wh tn bs z)))] ∧ RL w.heap.size wx AA nn cc (stepD ⟨l.map adat, 0, false, 0⟩ name (cmdOf wh tn bs z)).l ∧ w5.heap.size ≤ G ∧ Below w5.heap.size w5 wx)
            case first =>
              refine wp_region_held_drew (S := (fun w' => w'.cell? ⟨w.heap.size, 0, none⟩ = some (.int .i64 wh) ∧ w'.cell? ⟨w.heap.size, 1, none⟩ = some (.string name) ∧ w'.cell? ⟨w.heap.size, 2, none⟩ = some (.string tn) ∧ w'.cell? ⟨w.heap.size, 3, none⟩ = some (.slice M m mc) ∧ w'.cell? ⟨w.heap.size, 4, none⟩ = some (.int .i64 z))) (by kernel_rfl) ?_ (fun hHeld => ?_)
              · exact hS4 _ ((Below.refl _ w5).drew)
              refine wpAnyH_take (i := 0) (v := ?_) rfl (by kernel_rfl) (by kernel_rfl) (by kernel_rfl) (fun _ _ _ h => h) (Or.inl ⟨by rfl, ?hy⟩) (by assumption) ?_
              case hy => (intro w hSw; (try dsimp only at hSw); go_simp; all_goals with_reducible rfl)
              try simp only [Act.put, List.setIfInBounds_toArray, List.set_cons_zero, List.set_cons_succ]
              refine wpAnyH_take (i := 2) (v := ?_) rfl (by kernel_rfl) (by kernel_rfl) (by kernel_rfl) (fun _ _ _ h => h) (Or.inl ⟨by rfl, ?hy⟩) (by assumption) ?_
              case hy => (intro w hSw; (try dsimp only at hSw); go_simp; all_goals with_reducible rfl)
              try simp only [Act.put, List.setIfInBounds_toArray, List.set_cons_zero, List.set_cons_succ]
              refine wpAnyH_ready (rs := [1, 7]) (by kernel_rfl) (by simp) (AllReadyH.cons rfl (fun K hK => ?_) (AllReadyH.cons rfl (fun K hK => ?_) AllReadyH.nil))
              · go_simp
                (go_at_call 27; go_must (refine (rnew_any _).mono ?_; rintro e wN1 ⟨rfl, hbN1⟩))
                have hbk1 := hbk0.trans (hbN1.mono hbk0.size)
                refine hK.out _ _ ?_ (fun hHeld => ?_)
                · exact hS4 _ hbk1
                clear hK K
                try simp only [Act.put, List.setIfInBounds_toArray, List.set_cons_zero, List.set_cons_succ]
                refine wpAnyH_ready (rs := [3, 7]) (by kernel_rfl) (by simp) (AllReadyH.cons rfl (fun K hK => ?_) (AllReadyH.cons rfl (fun K hK => ?_) AllReadyH.nil))
                · go_simp
                  (go_at_call 26; go_must (refine (rdo_any wh hwh (d := ⟨l.map adat, 0, false, 0⟩) (c := c) (mc := mc) (z := z) (name := name) (tn := tn) (bs := bs) _ ((hdv5.below (hbk1.mono hz5)).more (Nat.le_trans hz5 hbk1.size)) (by omega) hflS hs1 hs2 ((hM5.below (hbk1.mono hz5)).more (Nat.le_trans hz5 hbk1.size)) (by omega) (Int.le_refl 0) (by show (0 : Int) ≤ 1000000000; decide) (Int.le_refl 0) (by show (0 : Int) ≤ 9223372036854775807; decide)).mono ?_; rintro e wD2 ⟨⟨A6, n6, c6, rfl, hro2⟩, hbD2⟩))
                  have hRLa2 : RL w.heap.size wN1 A n c (l.map adat) := .inl (hdv5.below (hbk1.mono hz5))
                  have hRL2 := hRLa2.out hbD2 (Nat.le_trans hz5 hbk1.size) hro2
                  have hbk2 := hbk1.trans (hbD2.mono hbk1.size)
                  refine hK.out _ _ ?_ (fun hHeld => ?_)
                  · exact hS4 _ hbk2
                  clear hK K
                  try simp only [Act.put, List.setIfInBounds_toArray, List.set_cons_zero, List.set_cons_succ]
                  refine wpAnyH_take (i := 4) (v := ?_) rfl (by kernel_rfl) (by kernel_rfl) (by kernel_rfl) (fun _ _ _ h => h) (Or.inl ⟨by rfl, ?hy⟩) (by assumption) ?_
                  case hy => (intro w hSw; (try dsimp only at hSw); go_simp; all_goals with_reducible rfl)
                  try simp only [Act.put, List.setIfInBounds_toArray, List.set_cons_zero, List.set_cons_succ]
                  refine wpAnyH_take (i := 5) (v := ?_) rfl (by kernel_rfl) (by kernel_rfl) (by kernel_rfl) (fun _ _ _ h => h) (Or.inl ⟨by rfl, ?hy⟩) (by assumption) ?_
                  case hy => (intro w hSw; (try dsimp only at hSw); go_simp; all_goals with_reducible rfl)
                  try simp only [Act.put, List.setIfInBounds_toArray, List.set_cons_zero, List.set_cons_succ]
                  refine wpAnyH_take (i := 6) (v := ?_) rfl (by kernel_rfl) (by kernel_rfl) (by kernel_rfl) (fun _ _ _ h => h) (Or.inl ⟨by rfl, ?hy⟩) (by assumption) ?_
                  case hy => (intro w hSw; (try dsimp only at hSw); go_simp; all_goals with_reducible rfl)
                  try simp only [Act.put, List.setIfInBounds_toArray, List.set_cons_zero, List.set_cons_succ]
                  refine wpAnyH_ready (rs := [7]) (by kernel_rfl) (by simp) (AllReadyH.cons rfl (fun K hK => ?_) AllReadyH.nil)
                  go_simp
                  have hG3 := Blk.new (wD2) 51 #[.slice none 0 0, .int .i64 0, .int .i64 0]
                  have hbk3 : Below w5.heap.size w5 ((wD2).alloc (.cells #[.slice none 0 0, .int .i64 0, .int .i64 0] 51)) := hbk2.alloc hbk2.size _
                  have hRL3 := hRL2.below ((Below.refl _ (wD2)).alloc (Nat.le_refl _) (.cells #[.slice none 0 0, .int .i64 0, .int .i64 0] 51)) (Nat.le_trans hz5 hbk2.size)
                  obtain ⟨G, hGe, hGl⟩ : ∃ G, G = (wD2).heap.size ∧ w5.heap.size ≤ G := ⟨_, rfl, hbk2.size⟩
                  have hG3 : Blk ((wD2).alloc (.cells #[.slice none 0 0, .int .i64 0, .int .i64 0] 51)) (wD2).heap.size 51 #[.slice none 0 0, .int .i64 0, .int .i64 0] := hG3
                  rw [← hGe] at hG3
                  simp only [← hGe]
                  clear hGe
                  refine hK.out _ _ ?_ (fun hHeld => ?_)
                  · exact hS4 _ hbk3
                  clear hK K
                  try simp only [Act.put, List.setIfInBounds_toArray, List.set_cons_zero, List.set_cons_succ]
                  refine wpAnyH_ready (rs := [8]) (by kernel_rfl) (by simp) (AllReadyH.cons rfl (fun K hK => ?_) AllReadyH.nil)
                  have g0 := hG3.cell 0
                  have g1 := hG3.cell 1
                  have g2 := hG3.cell 2
                  have gf := fun i => hG3.frozen i
                  go_simp
                  clear g0 g1 g2 gf
                  have hG4 := ((hG3.set_ 0 (.slice A6 n6 c6)).set_ 1 (.int .i64 (stepD ⟨l.map adat, 0, false, 0⟩ name (cmdOf wh tn bs z)).st)).set_ 2 (.int .i64 (leftR (stepD ⟨l.map adat, 0, false, 0⟩ name (cmdOf wh tn bs z))))
                  have hbk4 := ((hbk3.setCell (p := ⟨G, 0, none⟩) hGl (.slice A6 n6 c6)).setCell (p := ⟨G, 1, none⟩) hGl (.int .i64 (stepD ⟨l.map adat, 0, false, 0⟩ name (cmdOf wh tn bs z)).st)).setCell (p := ⟨G, 2, none⟩) hGl (.int .i64 (leftR (stepD ⟨l.map adat, 0, false, 0⟩ name (cmdOf wh tn bs z))))
                  have hRL4 := ((hRL3.far (i := 0) hG3 (by decide) (Nat.le_trans hz5 hGl) (.slice A6 n6 c6)).far (i := 1) (hG3.set_ 0 (.slice A6 n6 c6)) (by decide) (Nat.le_trans hz5 hGl) (.int .i64 (stepD ⟨l.map adat, 0, false, 0⟩ name (cmdOf wh tn bs z)).st)).far (i := 2) ((hG3.set_ 0 (.slice A6 n6 c6)).set_ 1 (.int .i64 (stepD ⟨l.map adat, 0, false, 0⟩ name (cmdOf wh tn bs z)).st)) (by decide) (Nat.le_trans hz5 hGl) (.int .i64 (leftR (stepD ⟨l.map adat, 0, false, 0⟩ name (cmdOf wh tn bs z))))
                  refine hK.out _ _ ?_ (fun hHeld => ?_)
                  · exact hS4 _ hbk4
                  clear hK K
                  try simp only [Act.put, List.setIfInBounds_toArray, List.set_cons_zero, List.set_cons_succ]
                  refine wpAnyH_take (i := 9) (v := ?_) rfl (by kernel_rfl) (by kernel_rfl) (by kernel_rfl) (fun _ _ _ h => h) (Or.inl ⟨by rfl, ?hy⟩) (by assumption) ?_
                  case hy => (intro w hSw; (try dsimp only at hSw); go_simp; all_goals with_reducible rfl)
                  try simp only [Act.put, List.setIfInBounds_toArray, List.set_cons_zero, List.set_cons_succ]
                  refine wpAnyH_done (by kernel_rfl) ?_ _
                  have hG6 := hG4
                  have hb56 := hbk4
                  have hRL6 := hRL4
                  have hGle := hGl
                  clear hHeld hG4 hbk4 hRL4
                  obtain ⟨w6, hw6⟩ : ∃ w6, w6 = ((((((wD2).alloc (.cells #[.slice none 0 0, .int .i64 0, .int .i64 0] 51))).setCell ⟨G, 0, none⟩ (.slice A6 n6 c6)).setCell ⟨G, 1, none⟩ (.int .i64 (stepD ⟨l.map adat, 0, false, 0⟩ name (cmdOf wh tn bs z)).st)).setCell ⟨G, 2, none⟩ (.int .i64 (leftR (stepD ⟨l.map adat, 0, false, 0⟩ name (cmdOf wh tn bs z))))) := ⟨_, rfl⟩
                  rw [← hw6] at hG6 hb56 hRL6
                  rw [← hw6]
                  clear hw6
                  ((try go_wp2_with fail); go_meet; exact ⟨G, A6, n6, c6, rfl, rfl, hG6, hRL6, hGle, hb56⟩)
                · go_simp
                  have hG5 := Blk.new (wN1) 51 #[.slice none 0 0, .int .i64 0, .int .i64 0]
                  have hbk5 : Below w5.heap.size w5 ((wN1).alloc (.cells #[.slice none 0 0, .int .i64 0, .int .i64 0] 51)) := hbk1.alloc hbk1.size _
                  obtain ⟨G, hGe, hGl⟩ : ∃ G, G = (wN1).heap.size ∧ w5.heap.size ≤ G := ⟨_, rfl, hbk1.size⟩
                  have hG5 : Blk ((wN1).alloc (.cells #[.slice none 0 0, .int .i64 0, .int .i64 0] 51)) (wN1).heap.size 51 #[.slice none 0 0, .int .i64 0, .int .i64 0] := hG5
                  rw [← hGe] at hG5
                  simp only [← hGe]
                  clear hGe
                  refine hK.out _ _ ?_ (fun hHeld => ?_)
                  · exact hS4 _ hbk5
                  clear hK K
                  try simp only [Act.put, List.setIfInBounds_toArray, List.set_cons_zero, List.set_cons_succ]
                  refine wpAnyH_ready (rs := [3]) (by kernel_rfl) (by simp) (AllReadyH.cons rfl (fun K hK => ?_) AllReadyH.nil)
                  go_simp
                  (go_at_call 26; go_must (refine (rdo_any wh hwh (d := ⟨l.map adat, 0, false, 0⟩) (c := c) (mc := mc) (z := z) (name := name) (tn := tn) (bs := bs) _ ((hdv5.below (hbk5.mono hz5)).more (Nat.le_trans hz5 hbk5.size)) (by omega) hflS hs1 hs2 ((hM5.below (hbk5.mono hz5)).more (Nat.le_trans hz5 hbk5.size)) (by omega) (Int.le_refl 0) (by show (0 : Int) ≤ 1000000000; decide) (Int.le_refl 0) (by show (0 : Int) ≤ 9223372036854775807; decide)).mono ?_; rintro e wD6 ⟨⟨A6, n6, c6, rfl, hro6⟩, hbD6⟩))
                  have hRLa6 : RL w.heap.size ((wN1).alloc (.cells #[.slice none 0 0, .int .i64 0, .int .i64 0] 51)) A n c (l.map adat) := .inl (hdv5.below (hbk5.mono hz5))
                  have hRL6 := hRLa6.out hbD6 (Nat.le_trans hz5 hbk5.size) hro6
                  have hbk6 := hbk5.trans (hbD6.mono hbk5.size)
                  have hG6 := hG5.below hbD6 hG5.lt
                  refine hK.out _ _ ?_ (fun hHeld => ?_)
                  · exact hS4 _ hbk6
                  clear hK K
                  try simp only [Act.put, List.setIfInBounds_toArray, List.set_cons_zero, List.set_cons_succ]
                  refine wpAnyH_take (i := 4) (v := ?_) rfl (by kernel_rfl) (by kernel_rfl) (by kernel_rfl) (fun _ _ _ h => h) (Or.inl ⟨by rfl, ?hy⟩) (by assumption) ?_
                  case hy => (intro w hSw; (try dsimp only at hSw); go_simp; all_goals with_reducible rfl)
                  try simp only [Act.put, List.setIfInBounds_toArray, List.set_cons_zero, List.set_cons_succ]
                  refine wpAnyH_take (i := 5) (v := ?_) rfl (by kernel_rfl) (by kernel_rfl) (by kernel_rfl) (fun _ _ _ h => h) (Or.inl ⟨by rfl, ?hy⟩) (by assumption) ?_
                  case hy => (intro w hSw; (try dsimp only at hSw); go_simp; all_goals with_reducible rfl)
                  try simp only [Act.put, List.setIfInBounds_toArray, List.set_cons_zero, List.set_cons_succ]
                  refine wpAnyH_take (i := 6) (v := ?_) rfl (by kernel_rfl) (by kernel_rfl) (by kernel_rfl) (fun _ _ _ h => h) (Or.inl ⟨by rfl, ?hy⟩) (by assumption) ?_
                  case hy => (intro w hSw; (try dsimp only at hSw); go_simp; all_goals with_reducible rfl)
                  try simp only [Act.put, List.setIfInBounds_toArray, List.set_cons_zero, List.set_cons_succ]
                  refine wpAnyH_ready (rs := [8]) (by kernel_rfl) (by simp) (AllReadyH.cons rfl (fun K hK => ?_) AllReadyH.nil)
                  have g0 := hG6.cell 0
                  have g1 := hG6.cell 1
                  have g2 := hG6.cell 2
                  have gf := fun i => hG6.frozen i
                  go_simp
                  clear g0 g1 g2 gf
                  have hG7 := ((hG6.set_ 0 (.slice A6 n6 c6)).set_ 1 (.int .i64 (stepD ⟨l.map adat, 0, false, 0⟩ name (cmdOf wh tn bs z)).st)).set_ 2 (.int .i64 (leftR (stepD ⟨l.map adat, 0, false, 0⟩ name (cmdOf wh tn bs z))))
                  have hbk7 := ((hbk6.setCell (p := ⟨G, 0, none⟩) hGl (.slice A6 n6 c6)).setCell (p := ⟨G, 1, none⟩) hGl (.int .i64 (stepD ⟨l.map adat, 0, false, 0⟩ name (cmdOf wh tn bs z)).st)).setCell (p := ⟨G, 2, none⟩) hGl (.int .i64 (leftR (stepD ⟨l.map adat, 0, false, 0⟩ name (cmdOf wh tn bs z))))
                  have hRL7 := ((hRL6.far (i := 0) hG6 (by decide) (Nat.le_trans hz5 hGl) (.slice A6 n6 c6)).far (i := 1) (hG6.set_ 0 (.slice A6 n6 c6)) (by decide) (Nat.le_trans hz5 hGl) (.int .i64 (stepD ⟨l.map adat, 0, false, 0⟩ name (cmdOf wh tn bs z)).st)).far (i := 2) ((hG6.set_ 0 (.slice A6 n6 c6)).set_ 1 (.int .i64 (stepD ⟨l.map adat, 0, false, 0⟩ name (cmdOf wh tn bs z)).st)) (by decide) (Nat.le_trans hz5 hGl) (.int .i64 (leftR (stepD ⟨l.map adat, 0, false, 0⟩ name (cmdOf wh tn bs z))))
                  refine hK.out _ _ ?_ (fun hHeld => ?_)
                  · exact hS4 _ hbk7
                  clear hK K
                  try simp only [Act.put, List.setIfInBounds_toArray, List.set_cons_zero, List.set_cons_succ]
                  refine wpAnyH_take (i := 9) (v := ?_) rfl (by kernel_rfl) (by kernel_rfl) (by kernel_rfl) (fun _ _ _ h => h) (Or.inl ⟨by rfl, ?hy⟩) (by assumption) ?_
                  case hy => (intro w hSw; (try dsimp only at hSw); go_simp; all_goals with_reducible rfl)
                  try simp only [Act.put, List.setIfInBounds_toArray, List.set_cons_zero, List.set_cons_succ]
                  refine wpAnyH_done (by kernel_rfl) ?_ _
                  have hG6 := hG7
                  have hb56 := hbk7
                  have hRL6 := hRL7
                  have hGle := hGl
                  clear hHeld hG7 hbk7 hRL7
                  obtain ⟨w6, hw6⟩ : ∃ w6, w6 = ((((wD6).setCell ⟨G, 0, none⟩ (.slice A6 n6 c6)).setCell ⟨G, 1, none⟩ (.int .i64 (stepD ⟨l.map adat, 0, false, 0⟩ name (cmdOf wh tn bs z)).st)).setCell ⟨G, 2, none⟩ (.int .i64 (leftR (stepD ⟨l.map adat, 0, false, 0⟩ name (cmdOf wh tn bs z))))) := ⟨_, rfl⟩
                  rw [← hw6] at hG6 hb56 hRL6
                  rw [← hw6]
                  clear hw6
                  ((try go_wp2_with fail); go_meet; exact ⟨G, A6, n6, c6, rfl, rfl, hG6, hRL6, hGle, hb56⟩)
              · go_simp
                have hG8 := Blk.new (w5.drew) 51 #[.slice none 0 0, .int .i64 0, .int .i64 0]
                have hbk8 : Below w5.heap.size w5 ((w5.drew).alloc (.cells #[.slice none 0 0, .int .i64 0, .int .i64 0] 51)) := hbk0.alloc hbk0.size _
                obtain ⟨G, hGe, hGl⟩ : ∃ G, G = w5.heap.size ∧ w5.heap.size ≤ G := ⟨_, rfl, hbk0.size⟩
                have hG8 : Blk ((w5.drew).alloc (.cells #[.slice none 0 0, .int .i64 0, .int .i64 0] 51)) w5.heap.size 51 #[.slice none 0 0, .int .i64 0, .int .i64 0] := hG8
                rw [← hGe] at hG8
                simp only [← hGe]
                clear hGe
                refine hK.out _ _ ?_ (fun hHeld => ?_)
                · exact hS4 _ hbk8
                clear hK K
                try simp only [Act.put, List.setIfInBounds_toArray, List.set_cons_zero, List.set_cons_succ]
                refine wpAnyH_ready (rs := [1]) (by kernel_rfl) (by simp) (AllReadyH.cons rfl (fun K hK => ?_) AllReadyH.nil)
                go_simp
                (go_at_call 27; go_must (refine (rnew_any _).mono ?_; rintro e wN9 ⟨rfl, hbN9⟩))
                have hbk9 := hbk8.trans (hbN9.mono hbk8.size)
                have hG9 := hG8.below hbN9 hG8.lt
                refine hK.out _ _ ?_ (fun hHeld => ?_)
                · exact hS4 _ hbk9
                clear hK K
                try simp only [Act.put, List.setIfInBounds_toArray, List.set_cons_zero, List.set_cons_succ]
                refine wpAnyH_ready (rs := [3]) (by kernel_rfl) (by simp) (AllReadyH.cons rfl (fun K hK => ?_) AllReadyH.nil)
                go_simp
                (go_at_call 26; go_must (refine (rdo_any wh hwh (d := ⟨l.map adat, 0, false, 0⟩) (c := c) (mc := mc) (z := z) (name := name) (tn := tn) (bs := bs) _ ((hdv5.below (hbk9.mono hz5)).more (Nat.le_trans hz5 hbk9.size)) (by omega) hflS hs1 hs2 ((hM5.below (hbk9.mono hz5)).more (Nat.le_trans hz5 hbk9.size)) (by omega) (Int.le_refl 0) (by show (0 : Int) ≤ 1000000000; decide) (Int.le_refl 0) (by show (0 : Int) ≤ 9223372036854775807; decide)).mono ?_; rintro e wD10 ⟨⟨A6, n6, c6, rfl, hro10⟩, hbD10⟩))
                have hRLa10 : RL w.heap.size wN9 A n c (l.map adat) := .inl (hdv5.below (hbk9.mono hz5))
                have hRL10 := hRLa10.out hbD10 (Nat.le_trans hz5 hbk9.size) hro10
                have hbk10 := hbk9.trans (hbD10.mono hbk9.size)
                have hG10 := hG9.below hbD10 hG9.lt
                refine hK.out _ _ ?_ (fun hHeld => ?_)
                · exact hS4 _ hbk10
                clear hK K
                try simp only [Act.put, List.setIfInBounds_toArray, List.set_cons_zero, List.set_cons_succ]
                refine wpAnyH_take (i := 4) (v := ?_) rfl (by kernel_rfl) (by kernel_rfl) (by kernel_rfl) (fun _ _ _ h => h) (Or.inl ⟨by rfl, ?hy⟩) (by assumption) ?_
                case hy => (intro w hSw; (try dsimp only at hSw); go_simp; all_goals with_reducible rfl)
                try simp only [Act.put, List.setIfInBounds_toArray, List.set_cons_zero, List.set_cons_succ]
                refine wpAnyH_take (i := 5) (v := ?_) rfl (by kernel_rfl) (by kernel_rfl) (by kernel_rfl) (fun _ _ _ h => h) (Or.inl ⟨by rfl, ?hy⟩) (by assumption) ?_
                case hy => (intro w hSw; (try dsimp only at hSw); go_simp; all_goals with_reducible rfl)
                try simp only [Act.put, List.setIfInBounds_toArray, List.set_cons_zero, List.set_cons_succ]
                refine wpAnyH_take (i := 6) (v := ?_) rfl (by kernel_rfl) (by kernel_rfl) (by kernel_rfl) (fun _ _ _ h => h) (Or.inl ⟨by rfl, ?hy⟩) (by assumption) ?_
                case hy => (intro w hSw; (try dsimp only at hSw); go_simp; all_goals with_reducible rfl)
                try simp only [Act.put, List.setIfInBounds_toArray, List.set_cons_zero, List.set_cons_succ]
                refine wpAnyH_ready (rs := [8]) (by kernel_rfl) (by simp) (AllReadyH.cons rfl (fun K hK => ?_) AllReadyH.nil)
                have g0 := hG10.cell 0
                have g1 := hG10.cell 1
                have g2 := hG10.cell 2
                have gf := fun i => hG10.frozen i
                go_simp
                clear g0 g1 g2 gf
                have hG11 := ((hG10.set_ 0 (.slice A6 n6 c6)).set_ 1 (.int .i64 (stepD ⟨l.map adat, 0, false, 0⟩ name (cmdOf wh tn bs z)).st)).set_ 2 (.int .i64 (leftR (stepD ⟨l.map adat, 0, false, 0⟩ name (cmdOf wh tn bs z))))
                have hbk11 := ((hbk10.setCell (p := ⟨G, 0, none⟩) hGl (.slice A6 n6 c6)).setCell (p := ⟨G, 1, none⟩) hGl (.int .i64 (stepD ⟨l.map adat, 0, false, 0⟩ name (cmdOf wh tn bs z)).st)).setCell (p := ⟨G, 2, none⟩) hGl (.int .i64 (leftR (stepD ⟨l.map adat, 0, false, 0⟩ name (cmdOf wh tn bs z))))
                have hRL11 := ((hRL10.far (i := 0) hG10 (by decide) (Nat.le_trans hz5 hGl) (.slice A6 n6 c6)).far (i := 1) (hG10.set_ 0 (.slice A6 n6 c6)) (by decide) (Nat.le_trans hz5 hGl) (.int .i64 (stepD ⟨l.map adat, 0, false, 0⟩ name (cmdOf wh tn bs z)).st)).far (i := 2) ((hG10.set_ 0 (.slice A6 n6 c6)).set_ 1 (.int .i64 (stepD ⟨l.map adat, 0, false, 0⟩ name (cmdOf wh tn bs z)).st)) (by decide) (Nat.le_trans hz5 hGl) (.int .i64 (leftR (stepD ⟨l.map adat, 0, false, 0⟩ name (cmdOf wh tn bs z))))
                refine hK.out _ _ ?_ (fun hHeld => ?_)
                · exact hS4 _ hbk11
                clear hK K
                try simp only [Act.put, List.setIfInBounds_toArray, List.set_cons_zero, List.set_cons_succ]
                refine wpAnyH_take (i := 9) (v := ?_) rfl (by kernel_rfl) (by kernel_rfl) (by kernel_rfl) (fun _ _ _ h => h) (Or.inl ⟨by rfl, ?hy⟩) (by assumption) ?_
                case hy => (intro w hSw; (try dsimp only at hSw); go_simp; all_goals with_reducible rfl)
                try simp only [Act.put, List.setIfInBounds_toArray, List.set_cons_zero, List.set_cons_succ]
                refine wpAnyH_done (by kernel_rfl) ?_ _
                have hG6 := hG11
                have hb56 := hbk11
                have hRL6 := hRL11
                have hGle := hGl
                clear hHeld hG11 hbk11 hRL11
                obtain ⟨w6, hw6⟩ : ∃ w6, w6 = ((((wD10).setCell ⟨G, 0, none⟩ (.slice A6 n6 c6)).setCell ⟨G, 1, none⟩ (.int .i64 (stepD ⟨l.map adat, 0, false, 0⟩ name (cmdOf wh tn bs z)).st)).setCell ⟨G, 2, none⟩ (.int .i64 (leftR (stepD ⟨l.map adat, 0, false, 0⟩ name (cmdOf wh tn bs z))))) := ⟨_, rfl⟩
                rw [← hw6] at hG6 hb56 hRL6
                rw [← hw6]
                clear hw6
                ((try go_wp2_with fail); go_meet; exact ⟨G, A6, n6, c6, rfl, rfl, hG6, hRL6, hGle, hb56⟩)
            case rest =>
              obtain ⟨G, A6, n6, c6, rfl, rfl, hG6, hRL6, hGle, hb56⟩ := hcut
              have hd6 := hd5.below hb56
              have hM6 := hM5.below (hb56.mono hz5)
              have hKe6 := hKe5.below (hb56.mono hz5)
              have hs6 := hs5.below hb56 hs5.lt
              have hz46 := Nat.le_trans hz45 hb56.size
              have hbw6 : Below w.heap.size w wc := hbw5.trans (hb56.mono hz5)
              have hz6 := hbw6.size
              have hfl0 : ∀ x ∈ l.map adat, x.2.1.length ≤ 1048576 := fun x hx => (hflS x hx).1
              have hK1 : FitK (stepD ⟨l.map adat, 0, false, 0⟩ name (cmdOf wh tn bs z)).l 3001 := FitK.step (d := ⟨l.map adat, 0, false, 0⟩) hK0 hs1 (fun t e => by rw [cmd_ren e]; exact hs2)
              obtain ⟨d1, hd1⟩ : ∃ d1, d1 = stepD ⟨l.map adat, 0, false, 0⟩ name (cmdOf wh tn bs z) := ⟨_, rfl⟩
              have hdo := fun w h hi hM => ldo_any wh hwh (B := w4.heap.size) (g := g) (r := r) (M := M) (m := m) (mc := mc) (d := ⟨l.map adat, 0, false, 0⟩) (z := z) (name := name) (tn := tn) (bs := bs) w h hi hs2 hM (by omega) hfl0
              rw [← hd1] at hG6 hRL6 hFit1 hK1 hdo
              have HD1 := hide hd1
              have HDO := hide hdo
              clear hd1 hdo hS4 hdv5 hM5 hKe5 hs5 hbw5 hb56 hGle hbk0
              have hsc0 := hs6.cell 0
              have hsc1 := hs6.cell 1
              have hsc2 := hs6.cell 2
              have hsc3 := hs6.cell 3
              have hsc4 := hs6.cell 4
              go_upto_region 6 with (first
                | (go_at_call 28
                   go_must (
                   refine (HDO.out wc hd6 ⟨hz46, hs1, Int.le_refl 0, (by show (0 : Int) ≤ 1000000000; decide), Int.le_refl 0, (by show (0 : Int) ≤ 9223372036854775807; decide)⟩ (hM6.more hz6)).mono ?_
                   rintro e w7 ⟨rfl, hd7, hbk7⟩))
                | fail)
              clear hsc0 hsc1 hsc2 hsc3 hsc4
              have hG7 : Blk w7 G 51 _ := hbk7.2 _ _ _ hG6 (by decide) (by decide) (by decide)
              have hs7 : Blk w7 w.heap.size 48 _ := hbk7.2 _ _ _ hs6 (by decide) (by decide) (by decide)
              have hRL7 := hRL6.keep hbk7 hz4
              have hM7 := hM6.below (hbk7.1.mono hz4)
              have hKe7 := hKe6.below (hbk7.1.mono hz4)
              have hbw7 : Below w.heap.size w w7 := hbw6.trans (hbk7.1.mono hz4)
              clear hG6 hs6 hRL6 hM6 hKe6 hd6 hbk7
              go_upto_region 7 with (first
                | (go_at_call 29
                   go_must (
                   refine (halt_op (n := 0) w7 hd7).mono ?_
                   rintro e w8 ⟨rfl, hd8, hbk8⟩))
                | fail)
              have hG8 : Blk w8 G 51 _ := hbk8.2 _ _ _ hG7 (by decide) (by decide) (by decide)
              have hs8 : Blk w8 w.heap.size 48 _ := hbk8.2 _ _ _ hs7 (by decide) (by decide) (by decide)
              have hRL8 := hRL7.keep hbk8 hz4
              have hM8 := hM7.below (hbk8.1.mono hz4)
              have hKe8 := hKe7.below (hbk8.1.mono hz4)
              have hbw8 : Below w.heap.size w w8 := hbw7.trans (hbk8.1.mono hz4)
              have hz8 := hbw8.size
              have hsy := hd7.synced
              clear hG7 hs7 hRL7 hM7 hKe7 hd7 hbk8 hbw7
              go_upto_region 8 with (first
                | (go_at_call 24
                   go_must (
                   refine (crash_sW w8 hd8 hFit1 (hKe8.more hz8) hmk).mono ?_
                   rintro e w9 ⟨gc, rc, rfl, hc9, hb9⟩))
                | fail)
              have hc9 : DKd w8.heap.size w9 gc rc ⟨crashL ks d1.l, 0, false, 0⟩ := hc9
              have hG9 := hG8.below hb9 hG8.lt
              have hs9 := hs8.below hb9 hs8.lt
              have hRL9 := hRL8.below hb9 hz8
              have hM9 := hM8.below (hb9.mono hz8)
              have hKe9 := hKe8.below (hb9.mono hz8)
              have hbw9 := hbw8.trans (hb9.mono hz8)
              have hz9 := hbw9.size
              have hz89 := hb9.size
              have hK2 := hK1.crash hsy ks
              have hn1 := hK1.num
              have hn6 := hRL9.len
              have hflC : ∀ x ∈ d1.l, x.2.1.length ≤ 1048576 ∧ x.2.2 ≤ x.2.1.length := fun x hx => ⟨(hK1.all x hx).2.1, hsy x hx⟩
              have HCR := hide (rcrash_any (c := c6) (ck := ck) w9 (hRL9.reads hz9) (by omega) (hKe9.more hz9) hmk hflC)
              have hgc0 := hG9.cell 0
              clear hG8 hs8 hRL8 hM8 hKe8 hKe9 hbw8 hn6 hsy hflC
              go_upto_region 9 with (first
                | (go_at_call 30
                   go_must (
                   refine HCR.out.mono ?_
                   rintro e w10 ⟨v10, rfl, hown10, hb10⟩))
                | fail)
              clear hgc0 HCR
              obtain ⟨A9, n9, c9, rfl⟩ := own_sliceN hown10
              have HN9 : Hid (n9 = d1.l.length) := own_len3 hown10
              rw [← HN9.out] at hown10
              have hn9 : n9 ≤ 3001 := by rw [HN9.out]; exact hn1
              have hc10 := hc9.below hb10
              have hG10 := hG9.below hb10 hG9.lt
              have hs10 := hs9.below hb10 hs9.lt
              have hRL10 := hRL9.below hb10 hz9
              have hM10 := hM9.below (hb10.mono hz9)
              have hbw10 := hbw9.trans (hb10.mono hz9)
              have hz10 := hbw10.size
              have hbd10 : Below w8.heap.size w8 w10 := hb9.trans (hb10.mono hz89)
              obtain ⟨L2, hL2⟩ : ∃ L2, L2 = crashL ks d1.l := ⟨_, rfl⟩
              rw [← hL2] at hc10 hown10 hK2
              have HL2 := hide hL2
              have hdv10 : RL w.heap.size w10 A9 n9 c9 L2 := .inr (own_base3 hown10 hz9)
              have hrd10 : Reads w10 w10.heap.size 3 A9 n9 (dvs L2) := hdv10.reads hz10
              have hfl2 : ∀ x ∈ L2, x.2.1.length ≤ 1048576 ∧ x.2.2 ≤ 1048576 := fun x hx => (hK2.all x hx).2
              have hFit2 : Fit L2 := hK2.fit (by decide)
              have hFit3 : Fit (stepD ⟨L2, 0, false, 0⟩ name (cmdOf wh tn bs z)).l := (FitK.step (d := ⟨L2, 0, false, 0⟩) hK2 hs1 (fun t e => by rw [cmd_ren e]; exact hs2)).fit (by decide)
              clear hL2 hG9 hs9 hRL9 hM9 hc9 hbw9 hb10 hn1 hflS hown10 hK0 hK1 hK2
              have hS9 : ∀ w', Below w10.heap.size w10 w' → (fun w' => w'.cell? ⟨w.heap.size, 0, none⟩ = some (.int .i64 wh) ∧ w'.cell? ⟨w.heap.size, 1, none⟩ = some (.string name) ∧ w'.cell? ⟨w.heap.size, 2, none⟩ = some (.string tn) ∧ w'.cell? ⟨w.heap.size, 3, none⟩ = some (.slice M m mc) ∧ w'.cell? ⟨w.heap.size, 4, none⟩ = some (.int .i64 z)) w' := fun w' hb => by
                have h := hs10.below hb hs10.lt
                exact ⟨h.cell 0, h.cell 1, h.cell 2, h.cell 3, h.cell 4⟩
              have hbk0 : Below w10.heap.size w10 w10.drew := (Below.refl _ w10).drew
              go_cut [13, 14] (fun s13 s14 wy => ∃ (G2 : Nat) (AA : Option Addr) (nn cc : Nat), s13 = .pointer (some ⟨G2, 0, none⟩) ∧ s14 = .int .i64 (errP ⟨L2, 0, false, 0⟩ name (cmdOf wh tn bs z)) ∧ Blk wy G2 51 #[.slice AA nn cc, .int .i64 (stepD ⟨L2, 0, false, 0⟩ name (cmdOf wh tn bs z)).st, .int .i64 (leftR (stepD ⟨L2, 0, false, 0⟩ name (cmdOf wh tn bs z)))] ∧ RL w.heap.size wy AA nn cc (stepD ⟨L2, 0, false, 0⟩ name (cmdOf wh tn bs z)).l ∧ w10.heap.size ≤ G2 ∧ Below w10.heap.size w10 wy)
              case first =>
                refine wp_region_held_drew (S := (fun w' => w'.cell? ⟨w.heap.size, 0, none⟩ = some (.int .i64 wh) ∧ w'.cell? ⟨w.heap.size, 1, none⟩ = some (.string name) ∧ w'.cell? ⟨w.heap.size, 2, none⟩ = some (.string tn) ∧ w'.cell? ⟨w.heap.size, 3, none⟩ = some (.slice M m mc) ∧ w'.cell? ⟨w.heap.size, 4, none⟩ = some (.int .i64 z))) (by kernel_rfl) ?_ (fun hHeld => ?_)
                · exact hS9 _ ((Below.refl _ w10).drew)
                refine wpAnyH_take (i := 0) (v := ?_) rfl (by kernel_rfl) (by kernel_rfl) (by kernel_rfl) (fun _ _ _ h => h) (Or.inl ⟨by rfl, ?hy⟩) (by assumption) ?_
                case hy => (intro w hSw; (try dsimp only at hSw); go_simp; all_goals with_reducible rfl)
                try simp only [Act.put, List.setIfInBounds_toArray, List.set_cons_zero, List.set_cons_succ]
                refine wpAnyH_take (i := 2) (v := ?_) rfl (by kernel_rfl) (by kernel_rfl) (by kernel_rfl) (fun _ _ _ h => h) (Or.inl ⟨by rfl, ?hy⟩) (by assumption) ?_
                case hy => (intro w hSw; (try dsimp only at hSw); go_simp; all_goals with_reducible rfl)
                try simp only [Act.put, List.setIfInBounds_toArray, List.set_cons_zero, List.set_cons_succ]
                refine wpAnyH_ready (rs := [1, 7]) (by kernel_rfl) (by simp) (AllReadyH.cons rfl (fun K hK => ?_) (AllReadyH.cons rfl (fun K hK => ?_) AllReadyH.nil))
                · go_simp
                  (go_at_call 27; go_must (refine (rnew_any _).mono ?_; rintro e wN1 ⟨rfl, hbN1⟩))
                  have hbk1 := hbk0.trans (hbN1.mono hbk0.size)
                  refine hK.out _ _ ?_ (fun hHeld => ?_)
                  · exact hS9 _ hbk1
                  clear hK K
                  try simp only [Act.put, List.setIfInBounds_toArray, List.set_cons_zero, List.set_cons_succ]
                  refine wpAnyH_ready (rs := [3, 7]) (by kernel_rfl) (by simp) (AllReadyH.cons rfl (fun K hK => ?_) (AllReadyH.cons rfl (fun K hK => ?_) AllReadyH.nil))
                  · go_simp
                    (go_at_call 26; go_must (refine (rdo_any wh hwh (d := ⟨L2, 0, false, 0⟩) (c := c9) (mc := mc) (z := z) (name := name) (tn := tn) (bs := bs) _ ((hrd10.below hbk1).more hbk1.size) (by omega) hfl2 hs1 hs2 ((hM10.below (hbk1.mono hz10)).more (Nat.le_trans hz10 hbk1.size)) (by omega) (Int.le_refl 0) (by show (0 : Int) ≤ 1000000000; decide) (Int.le_refl 0) (by show (0 : Int) ≤ 9223372036854775807; decide)).mono ?_; rintro e wD2 ⟨⟨A11, n11, c11, rfl, hro2⟩, hbD2⟩))
                    have hRLa2 : RL w.heap.size wN1 A9 n9 c9 L2 := hdv10.below hbk1 hz10
                    have hRL2 := hRLa2.out hbD2 (Nat.le_trans hz10 hbk1.size) hro2
                    have hbk2 := hbk1.trans (hbD2.mono hbk1.size)
                    refine hK.out _ _ ?_ (fun hHeld => ?_)
                    · exact hS9 _ hbk2
                    clear hK K
                    try simp only [Act.put, List.setIfInBounds_toArray, List.set_cons_zero, List.set_cons_succ]
                    refine wpAnyH_take (i := 4) (v := ?_) rfl (by kernel_rfl) (by kernel_rfl) (by kernel_rfl) (fun _ _ _ h => h) (Or.inl ⟨by rfl, ?hy⟩) (by assumption) ?_
                    case hy => (intro w hSw; (try dsimp only at hSw); go_simp; all_goals with_reducible rfl)
                    try simp only [Act.put, List.setIfInBounds_toArray, List.set_cons_zero, List.set_cons_succ]
                    refine wpAnyH_take (i := 5) (v := ?_) rfl (by kernel_rfl) (by kernel_rfl) (by kernel_rfl) (fun _ _ _ h => h) (Or.inl ⟨by rfl, ?hy⟩) (by assumption) ?_
                    case hy => (intro w hSw; (try dsimp only at hSw); go_simp; all_goals with_reducible rfl)
                    try simp only [Act.put, List.setIfInBounds_toArray, List.set_cons_zero, List.set_cons_succ]
                    refine wpAnyH_take (i := 6) (v := ?_) rfl (by kernel_rfl) (by kernel_rfl) (by kernel_rfl) (fun _ _ _ h => h) (Or.inl ⟨by rfl, ?hy⟩) (by assumption) ?_
                    case hy => (intro w hSw; (try dsimp only at hSw); go_simp; all_goals with_reducible rfl)
                    try simp only [Act.put, List.setIfInBounds_toArray, List.set_cons_zero, List.set_cons_succ]
                    refine wpAnyH_ready (rs := [7]) (by kernel_rfl) (by simp) (AllReadyH.cons rfl (fun K hK => ?_) AllReadyH.nil)
                    go_simp
                    have hG3 := Blk.new (wD2) 51 #[.slice none 0 0, .int .i64 0, .int .i64 0]
                    have hbk3 : Below w10.heap.size w10 ((wD2).alloc (.cells #[.slice none 0 0, .int .i64 0, .int .i64 0] 51)) := hbk2.alloc hbk2.size _
                    have hRL3 := hRL2.below ((Below.refl _ (wD2)).alloc (Nat.le_refl _) (.cells #[.slice none 0 0, .int .i64 0, .int .i64 0] 51)) (Nat.le_trans hz10 hbk2.size)
                    obtain ⟨G2, hGe2, hGl2⟩ : ∃ G2, G2 = (wD2).heap.size ∧ w10.heap.size ≤ G2 := ⟨_, rfl, hbk2.size⟩
                    have hG3 : Blk ((wD2).alloc (.cells #[.slice none 0 0, .int .i64 0, .int .i64 0] 51)) (wD2).heap.size 51 #[.slice none 0 0, .int .i64 0, .int .i64 0] := hG3
                    rw [← hGe2] at hG3
                    simp only [← hGe2]
                    clear hGe2
                    refine hK.out _ _ ?_ (fun hHeld => ?_)
                    · exact hS9 _ hbk3
                    clear hK K
                    try simp only [Act.put, List.setIfInBounds_toArray, List.set_cons_zero, List.set_cons_succ]
                    refine wpAnyH_ready (rs := [8]) (by kernel_rfl) (by simp) (AllReadyH.cons rfl (fun K hK => ?_) AllReadyH.nil)
                    have g0 := hG3.cell 0
                    have g1 := hG3.cell 1
                    have g2 := hG3.cell 2
                    have gf := fun i => hG3.frozen i
                    go_simp
                    clear g0 g1 g2 gf
                    have hG4 := ((hG3.set_ 0 (.slice A11 n11 c11)).set_ 1 (.int .i64 (stepD ⟨L2, 0, false, 0⟩ name (cmdOf wh tn bs z)).st)).set_ 2 (.int .i64 (leftR (stepD ⟨L2, 0, false, 0⟩ name (cmdOf wh tn bs z))))
                    have hbk4 := ((hbk3.setCell (p := ⟨G2, 0, none⟩) hGl2 (.slice A11 n11 c11)).setCell (p := ⟨G2, 1, none⟩) hGl2 (.int .i64 (stepD ⟨L2, 0, false, 0⟩ name (cmdOf wh tn bs z)).st)).setCell (p := ⟨G2, 2, none⟩) hGl2 (.int .i64 (leftR (stepD ⟨L2, 0, false, 0⟩ name (cmdOf wh tn bs z))))
                    have hRL4 := ((hRL3.far (i := 0) hG3 (by decide) (Nat.le_trans hz10 hGl2) (.slice A11 n11 c11)).far (i := 1) (hG3.set_ 0 (.slice A11 n11 c11)) (by decide) (Nat.le_trans hz10 hGl2) (.int .i64 (stepD ⟨L2, 0, false, 0⟩ name (cmdOf wh tn bs z)).st)).far (i := 2) ((hG3.set_ 0 (.slice A11 n11 c11)).set_ 1 (.int .i64 (stepD ⟨L2, 0, false, 0⟩ name (cmdOf wh tn bs z)).st)) (by decide) (Nat.le_trans hz10 hGl2) (.int .i64 (leftR (stepD ⟨L2, 0, false, 0⟩ name (cmdOf wh tn bs z))))
                    refine hK.out _ _ ?_ (fun hHeld => ?_)
                    · exact hS9 _ hbk4
                    clear hK K
                    try simp only [Act.put, List.setIfInBounds_toArray, List.set_cons_zero, List.set_cons_succ]
                    refine wpAnyH_take (i := 9) (v := ?_) rfl (by kernel_rfl) (by kernel_rfl) (by kernel_rfl) (fun _ _ _ h => h) (Or.inl ⟨by rfl, ?hy⟩) (by assumption) ?_
                    case hy => (intro w hSw; (try dsimp only at hSw); go_simp; all_goals with_reducible rfl)
                    try simp only [Act.put, List.setIfInBounds_toArray, List.set_cons_zero, List.set_cons_succ]
                    refine wpAnyH_done (by kernel_rfl) ?_ _
                    have hG6 := hG4
                    have hb56 := hbk4
                    have hRL6 := hRL4
                    have hGle := hGl2
                    clear hHeld hG4 hbk4 hRL4
                    obtain ⟨w6, hw6⟩ : ∃ w6, w6 = ((((((wD2).alloc (.cells #[.slice none 0 0, .int .i64 0, .int .i64 0] 51))).setCell ⟨G2, 0, none⟩ (.slice A11 n11 c11)).setCell ⟨G2, 1, none⟩ (.int .i64 (stepD ⟨L2, 0, false, 0⟩ name (cmdOf wh tn bs z)).st)).setCell ⟨G2, 2, none⟩ (.int .i64 (leftR (stepD ⟨L2, 0, false, 0⟩ name (cmdOf wh tn bs z))))) := ⟨_, rfl⟩
                    rw [← hw6] at hG6 hb56 hRL6
                    rw [← hw6]
                    clear hw6
                    ((try go_wp2_with fail); go_meet; exact ⟨G2, A11, n11, c11, rfl, rfl, hG6, hRL6, hGle, hb56⟩)
                  · go_simp
                    have hG5 := Blk.new (wN1) 51 #[.slice none 0 0, .int .i64 0, .int .i64 0]
                    have hbk5 : Below w10.heap.size w10 ((wN1).alloc (.cells #[.slice none 0 0, .int .i64 0, .int .i64 0] 51)) := hbk1.alloc hbk1.size _
                    obtain ⟨G2, hGe2, hGl2⟩ : ∃ G2, G2 = (wN1).heap.size ∧ w10.heap.size ≤ G2 := ⟨_, rfl, hbk1.size⟩
                    have hG5 : Blk ((wN1).alloc (.cells #[.slice none 0 0, .int .i64 0, .int .i64 0] 51)) (wN1).heap.size 51 #[.slice none 0 0, .int .i64 0, .int .i64 0] := hG5
                    rw [← hGe2] at hG5
                    simp only [← hGe2]
                    clear hGe2
                    refine hK.out _ _ ?_ (fun hHeld => ?_)
                    · exact hS9 _ hbk5
                    clear hK K
                    try simp only [Act.put, List.setIfInBounds_toArray, List.set_cons_zero, List.set_cons_succ]
                    refine wpAnyH_ready (rs := [3]) (by kernel_rfl) (by simp) (AllReadyH.cons rfl (fun K hK => ?_) AllReadyH.nil)
                    go_simp
                    (go_at_call 26; go_must (refine (rdo_any wh hwh (d := ⟨L2, 0, false, 0⟩) (c := c9) (mc := mc) (z := z) (name := name) (tn := tn) (bs := bs) _ ((hrd10.below hbk5).more hbk5.size) (by omega) hfl2 hs1 hs2 ((hM10.below (hbk5.mono hz10)).more (Nat.le_trans hz10 hbk5.size)) (by omega) (Int.le_refl 0) (by show (0 : Int) ≤ 1000000000; decide) (Int.le_refl 0) (by show (0 : Int) ≤ 9223372036854775807; decide)).mono ?_; rintro e wD6 ⟨⟨A11, n11, c11, rfl, hro6⟩, hbD6⟩))
                    have hRLa6 : RL w.heap.size ((wN1).alloc (.cells #[.slice none 0 0, .int .i64 0, .int .i64 0] 51)) A9 n9 c9 L2 := hdv10.below hbk5 hz10
                    have hRL6 := hRLa6.out hbD6 (Nat.le_trans hz10 hbk5.size) hro6
                    have hbk6 := hbk5.trans (hbD6.mono hbk5.size)
                    have hG6 := hG5.below hbD6 hG5.lt
                    refine hK.out _ _ ?_ (fun hHeld => ?_)
                    · exact hS9 _ hbk6
                    clear hK K
                    try simp only [Act.put, List.setIfInBounds_toArray, List.set_cons_zero, List.set_cons_succ]
                    refine wpAnyH_take (i := 4) (v := ?_) rfl (by kernel_rfl) (by kernel_rfl) (by kernel_rfl) (fun _ _ _ h => h) (Or.inl ⟨by rfl, ?hy⟩) (by assumption) ?_
                    case hy => (intro w hSw; (try dsimp only at hSw); go_simp; all_goals with_reducible rfl)
                    try simp only [Act.put, List.setIfInBounds_toArray, List.set_cons_zero, List.set_cons_succ]
                    refine wpAnyH_take (i := 5) (v := ?_) rfl (by kernel_rfl) (by kernel_rfl) (by kernel_rfl) (fun _ _ _ h => h) (Or.inl ⟨by rfl, ?hy⟩) (by assumption) ?_
                    case hy => (intro w hSw; (try dsimp only at hSw); go_simp; all_goals with_reducible rfl)
                    try simp only [Act.put, List.setIfInBounds_toArray, List.set_cons_zero, List.set_cons_succ]
                    refine wpAnyH_take (i := 6) (v := ?_) rfl (by kernel_rfl) (by kernel_rfl) (by kernel_rfl) (fun _ _ _ h => h) (Or.inl ⟨by rfl, ?hy⟩) (by assumption) ?_
                    case hy => (intro w hSw; (try dsimp only at hSw); go_simp; all_goals with_reducible rfl)
                    try simp only [Act.put, List.setIfInBounds_toArray, List.set_cons_zero, List.set_cons_succ]
                    refine wpAnyH_ready (rs := [8]) (by kernel_rfl) (by simp) (AllReadyH.cons rfl (fun K hK => ?_) AllReadyH.nil)
                    have g0 := hG6.cell 0
                    have g1 := hG6.cell 1
                    have g2 := hG6.cell 2
                    have gf := fun i => hG6.frozen i
                    go_simp
                    clear g0 g1 g2 gf
                    have hG7 := ((hG6.set_ 0 (.slice A11 n11 c11)).set_ 1 (.int .i64 (stepD ⟨L2, 0, false, 0⟩ name (cmdOf wh tn bs z)).st)).set_ 2 (.int .i64 (leftR (stepD ⟨L2, 0, false, 0⟩ name (cmdOf wh tn bs z))))
                    have hbk7 := ((hbk6.setCell (p := ⟨G2, 0, none⟩) hGl2 (.slice A11 n11 c11)).setCell (p := ⟨G2, 1, none⟩) hGl2 (.int .i64 (stepD ⟨L2, 0, false, 0⟩ name (cmdOf wh tn bs z)).st)).setCell (p := ⟨G2, 2, none⟩) hGl2 (.int .i64 (leftR (stepD ⟨L2, 0, false, 0⟩ name (cmdOf wh tn bs z))))
                    have hRL7 := ((hRL6.far (i := 0) hG6 (by decide) (Nat.le_trans hz10 hGl2) (.slice A11 n11 c11)).far (i := 1) (hG6.set_ 0 (.slice A11 n11 c11)) (by decide) (Nat.le_trans hz10 hGl2) (.int .i64 (stepD ⟨L2, 0, false, 0⟩ name (cmdOf wh tn bs z)).st)).far (i := 2) ((hG6.set_ 0 (.slice A11 n11 c11)).set_ 1 (.int .i64 (stepD ⟨L2, 0, false, 0⟩ name (cmdOf wh tn bs z)).st)) (by decide) (Nat.le_trans hz10 hGl2) (.int .i64 (leftR (stepD ⟨L2, 0, false, 0⟩ name (cmdOf wh tn bs z))))
                    refine hK.out _ _ ?_ (fun hHeld => ?_)
                    · exact hS9 _ hbk7
                    clear hK K
                    try simp only [Act.put, List.setIfInBounds_toArray, List.set_cons_zero, List.set_cons_succ]
                    refine wpAnyH_take (i := 9) (v := ?_) rfl (by kernel_rfl) (by kernel_rfl) (by kernel_rfl) (fun _ _ _ h => h) (Or.inl ⟨by rfl, ?hy⟩) (by assumption) ?_
                    case hy => (intro w hSw; (try dsimp only at hSw); go_simp; all_goals with_reducible rfl)
                    try simp only [Act.put, List.setIfInBounds_toArray, List.set_cons_zero, List.set_cons_succ]
                    refine wpAnyH_done (by kernel_rfl) ?_ _
                    have hG6 := hG7
                    have hb56 := hbk7
                    have hRL6 := hRL7
                    have hGle := hGl2
                    clear hHeld hG7 hbk7 hRL7
                    obtain ⟨w6, hw6⟩ : ∃ w6, w6 = ((((wD6).setCell ⟨G2, 0, none⟩ (.slice A11 n11 c11)).setCell ⟨G2, 1, none⟩ (.int .i64 (stepD ⟨L2, 0, false, 0⟩ name (cmdOf wh tn bs z)).st)).setCell ⟨G2, 2, none⟩ (.int .i64 (leftR (stepD ⟨L2, 0, false, 0⟩ name (cmdOf wh tn bs z))))) := ⟨_, rfl⟩
                    rw [← hw6] at hG6 hb56 hRL6
                    rw [← hw6]
                    clear hw6
                    ((try go_wp2_with fail); go_meet; exact ⟨G2, A11, n11, c11, rfl, rfl, hG6, hRL6, hGle, hb56⟩)
                · go_simp
                  have hG8 := Blk.new (w10.drew) 51 #[.slice none 0 0, .int .i64 0, .int .i64 0]
                  have hbk8 : Below w10.heap.size w10 ((w10.drew).alloc (.cells #[.slice none 0 0, .int .i64 0, .int .i64 0] 51)) := hbk0.alloc hbk0.size _
                  obtain ⟨G2, hGe2, hGl2⟩ : ∃ G2, G2 = w10.heap.size ∧ w10.heap.size ≤ G2 := ⟨_, rfl, hbk0.size⟩
                  have hG8 : Blk ((w10.drew).alloc (.cells #[.slice none 0 0, .int .i64 0, .int .i64 0] 51)) w10.heap.size 51 #[.slice none 0 0, .int .i64 0, .int .i64 0] := hG8
                  rw [← hGe2] at hG8
                  simp only [← hGe2]
                  clear hGe2
                  refine hK.out _ _ ?_ (fun hHeld => ?_)
                  · exact hS9 _ hbk8
                  clear hK K
                  try simp only [Act.put, List.setIfInBounds_toArray, List.set_cons_zero, List.set_cons_succ]
                  refine wpAnyH_ready (rs := [1]) (by kernel_rfl) (by simp) (AllReadyH.cons rfl (fun K hK => ?_) AllReadyH.nil)
                  go_simp
                  (go_at_call 27; go_must (refine (rnew_any _).mono ?_; rintro e wN9 ⟨rfl, hbN9⟩))
                  have hbk9 := hbk8.trans (hbN9.mono hbk8.size)
                  have hG9 := hG8.below hbN9 hG8.lt
                  refine hK.out _ _ ?_ (fun hHeld => ?_)
                  · exact hS9 _ hbk9
                  clear hK K
                  try simp only [Act.put, List.setIfInBounds_toArray, List.set_cons_zero, List.set_cons_succ]
                  refine wpAnyH_ready (rs := [3]) (by kernel_rfl) (by simp) (AllReadyH.cons rfl (fun K hK => ?_) AllReadyH.nil)
                  go_simp
                  (go_at_call 26; go_must (refine (rdo_any wh hwh (d := ⟨L2, 0, false, 0⟩) (c := c9) (mc := mc) (z := z) (name := name) (tn := tn) (bs := bs) _ ((hrd10.below hbk9).more hbk9.size) (by omega) hfl2 hs1 hs2 ((hM10.below (hbk9.mono hz10)).more (Nat.le_trans hz10 hbk9.size)) (by omega) (Int.le_refl 0) (by show (0 : Int) ≤ 1000000000; decide) (Int.le_refl 0) (by show (0 : Int) ≤ 9223372036854775807; decide)).mono ?_; rintro e wD10 ⟨⟨A11, n11, c11, rfl, hro10⟩, hbD10⟩))
                  have hRLa10 : RL w.heap.size wN9 A9 n9 c9 L2 := hdv10.below hbk9 hz10
                  have hRL10 := hRLa10.out hbD10 (Nat.le_trans hz10 hbk9.size) hro10
                  have hbk10 := hbk9.trans (hbD10.mono hbk9.size)
                  have hG10 := hG9.below hbD10 hG9.lt
                  refine hK.out _ _ ?_ (fun hHeld => ?_)
                  · exact hS9 _ hbk10
                  clear hK K
                  try simp only [Act.put, List.setIfInBounds_toArray, List.set_cons_zero, List.set_cons_succ]
                  refine wpAnyH_take (i := 4) (v := ?_) rfl (by kernel_rfl) (by kernel_rfl) (by kernel_rfl) (fun _ _ _ h => h) (Or.inl ⟨by rfl, ?hy⟩) (by assumption) ?_
                  case hy => (intro w hSw; (try dsimp only at hSw); go_simp; all_goals with_reducible rfl)
                  try simp only [Act.put, List.setIfInBounds_toArray, List.set_cons_zero, List.set_cons_succ]
                  refine wpAnyH_take (i := 5) (v := ?_) rfl (by kernel_rfl) (by kernel_rfl) (by kernel_rfl) (fun _ _ _ h => h) (Or.inl ⟨by rfl, ?hy⟩) (by assumption) ?_
                  case hy => (intro w hSw; (try dsimp only at hSw); go_simp; all_goals with_reducible rfl)
                  try simp only [Act.put, List.setIfInBounds_toArray, List.set_cons_zero, List.set_cons_succ]
                  refine wpAnyH_take (i := 6) (v := ?_) rfl (by kernel_rfl) (by kernel_rfl) (by kernel_rfl) (fun _ _ _ h => h) (Or.inl ⟨by rfl, ?hy⟩) (by assumption) ?_
                  case hy => (intro w hSw; (try dsimp only at hSw); go_simp; all_goals with_reducible rfl)
                  try simp only [Act.put, List.setIfInBounds_toArray, List.set_cons_zero, List.set_cons_succ]
                  refine wpAnyH_ready (rs := [8]) (by kernel_rfl) (by simp) (AllReadyH.cons rfl (fun K hK => ?_) AllReadyH.nil)
                  have g0 := hG10.cell 0
                  have g1 := hG10.cell 1
                  have g2 := hG10.cell 2
                  have gf := fun i => hG10.frozen i
                  go_simp
                  clear g0 g1 g2 gf
                  have hG11 := ((hG10.set_ 0 (.slice A11 n11 c11)).set_ 1 (.int .i64 (stepD ⟨L2, 0, false, 0⟩ name (cmdOf wh tn bs z)).st)).set_ 2 (.int .i64 (leftR (stepD ⟨L2, 0, false, 0⟩ name (cmdOf wh tn bs z))))
                  have hbk11 := ((hbk10.setCell (p := ⟨G2, 0, none⟩) hGl2 (.slice A11 n11 c11)).setCell (p := ⟨G2, 1, none⟩) hGl2 (.int .i64 (stepD ⟨L2, 0, false, 0⟩ name (cmdOf wh tn bs z)).st)).setCell (p := ⟨G2, 2, none⟩) hGl2 (.int .i64 (leftR (stepD ⟨L2, 0, false, 0⟩ name (cmdOf wh tn bs z))))
                  have hRL11 := ((hRL10.far (i := 0) hG10 (by decide) (Nat.le_trans hz10 hGl2) (.slice A11 n11 c11)).far (i := 1) (hG10.set_ 0 (.slice A11 n11 c11)) (by decide) (Nat.le_trans hz10 hGl2) (.int .i64 (stepD ⟨L2, 0, false, 0⟩ name (cmdOf wh tn bs z)).st)).far (i := 2) ((hG10.set_ 0 (.slice A11 n11 c11)).set_ 1 (.int .i64 (stepD ⟨L2, 0, false, 0⟩ name (cmdOf wh tn bs z)).st)) (by decide) (Nat.le_trans hz10 hGl2) (.int .i64 (leftR (stepD ⟨L2, 0, false, 0⟩ name (cmdOf wh tn bs z))))
                  refine hK.out _ _ ?_ (fun hHeld => ?_)
                  · exact hS9 _ hbk11
                  clear hK K
                  try simp only [Act.put, List.setIfInBounds_toArray, List.set_cons_zero, List.set_cons_succ]
                  refine wpAnyH_take (i := 9) (v := ?_) rfl (by kernel_rfl) (by kernel_rfl) (by kernel_rfl) (fun _ _ _ h => h) (Or.inl ⟨by rfl, ?hy⟩) (by assumption) ?_
                  case hy => (intro w hSw; (try dsimp only at hSw); go_simp; all_goals with_reducible rfl)
                  try simp only [Act.put, List.setIfInBounds_toArray, List.set_cons_zero, List.set_cons_succ]
                  refine wpAnyH_done (by kernel_rfl) ?_ _
                  have hG6 := hG11
                  have hb56 := hbk11
                  have hRL6 := hRL11
                  have hGle := hGl2
                  clear hHeld hG11 hbk11 hRL11
                  obtain ⟨w6, hw6⟩ : ∃ w6, w6 = ((((wD10).setCell ⟨G2, 0, none⟩ (.slice A11 n11 c11)).setCell ⟨G2, 1, none⟩ (.int .i64 (stepD ⟨L2, 0, false, 0⟩ name (cmdOf wh tn bs z)).st)).setCell ⟨G2, 2, none⟩ (.int .i64 (leftR (stepD ⟨L2, 0, false, 0⟩ name (cmdOf wh tn bs z))))) := ⟨_, rfl⟩
                  rw [← hw6] at hG6 hb56 hRL6
                  rw [← hw6]
                  clear hw6
                  ((try go_wp2_with fail); go_meet; exact ⟨G2, A11, n11, c11, rfl, rfl, hG6, hRL6, hGle, hb56⟩)
              case rest =>
                obtain ⟨G2, A11, n11, c11, rfl, rfl, hN11, hRLn11, _, hb11⟩ := hcut
                have hc11 := hc10.below hb11
                have hG11 := hG10.below hb11 hG10.lt
                have hs11 := hs10.below hb11 hs10.lt
                have hRL11 := hRL10.below hb11 hz10
                have hRLl11 := hdv10.below hb11 hz10
                have hM11 := hM10.below (hb11.mono hz10)
                have hbw11 := hbw10.trans (hb11.mono hz10)
                have hz11 := hbw11.size
                have hbd11 : Below w8.heap.size w8 wc := hbd10.trans (hb11.mono hbd10.size)
                have hfl20 : ∀ x ∈ L2, x.2.1.length ≤ 1048576 := fun x hx => (hfl2 x hx).1
                have hdo := fun w h hi hM => ldo_any wh hwh (B := w8.heap.size) (g := gc) (r := rc) (M := M) (m := m) (mc := mc) (d := ⟨L2, 0, false, 0⟩) (z := z) (name := name) (tn := tn) (bs := bs) w h hi hs2 hM (by omega) hfl20
                obtain ⟨d3, hd3⟩ : ∃ d3, d3 = stepD ⟨L2, 0, false, 0⟩ name (cmdOf wh tn bs z) := ⟨_, rfl⟩
                obtain ⟨E3, hE3⟩ : ∃ E3, E3 = errP ⟨L2, 0, false, 0⟩ name (cmdOf wh tn bs z) := ⟨_, rfl⟩
                rw [← hd3] at hN11 hRLn11 hFit3 hdo
                rw [← hE3] at hdo
                rw [← hE3]
                have hEE : (E3 != E3) = false := by simp
                have HDO := hide hdo
                clear hd3 hE3 hdo hfl20 hfl2 hS9 hdv10 hrd10 hM10 hs10 hRL10 hG10 hbw10 hb11 hbd10 hc10 hbk0
                go_upto_region 12 with (first
                  | (go_at_call 16; refine (num_any _ _).mono ?_; rintro e w60 ⟨rfl, rfl⟩)
                  | (go_at_call 20
                     go_must (
                     refine (files_s wc hc11 hFit2).mono ?_
                     rintro e w12 ⟨v12, rfl, hown12, hb12⟩)
                     obtain ⟨A12, n12, c12, rfl⟩ := own_sliceN hown12
                     have HN12 : Hid (n12 = L2.length) := own_len3 hown12
                     have hown12 : w12.ownsRow wc.heap.size 27 3 _ L2.length (dvs L2) := hown12
                     rw [← HN12.out] at hown12
                     have hc12 := hc11.below hb12
                     have hRLl12 := hRLl11.below hb12 hz11
                     have hs12 := hs11.below hb12 hs11.lt
                     have hbw12 := hbw11.trans (hb12.mono hz11))
                  | (go_at_call 17
                     go_must (
                     have hrA := Reads.of_own3 hown12
                     have hrB := hRLl12.reads hbw12.size
                     have hnn : n9 = n12 := (by have h1 := hRLl12.len; have h2 := HN12.out; omega)
                     subst hnn
                     rw [dvs_afs] at hrA hrB
                     refine (rsame_yes (c := c12) (c' := c9) w12 hrA hrB (by omega)).mono ?_
                     rintro e w13 ⟨rfl, hb13⟩)
                     have hc13 := hc12.below hb13
                     have hs13 := hs12.below hb13 hs12.lt
                     have hbe13 := hb12.trans (hb13.mono hb12.size)
                     have hsd0 := hs13.cell 0
                     have hsd1 := hs13.cell 1
                     have hsd2 := hs13.cell 2
                     have hsd3 := hs13.cell 3
                     have hsd4 := hs13.cell 4)
                  | (go_at_call 21
                     go_must (
                     refine (steps_s w13 hc13).mono ?_
                     rintro e w91 ⟨rfl, rfl⟩))
                  | (go_at_call 28
                     go_must (
                     refine (HDO.out w13 hc13 ⟨Nat.le_trans hbd11.size hbe13.size, hs1, Int.le_refl 0, (by show (0 : Int) ≤ 1000000000; decide), Int.le_refl 0, (by show (0 : Int) ≤ 9223372036854775807; decide)⟩ ((hM11.below (hbe13.mono hz11)).more (Nat.le_trans hz11 hbe13.size))).mono ?_
                     rintro e w14 ⟨rfl, hc14, hbk14⟩))
                  | fail)
                have hbd13 : Below w8.heap.size w8 w13 := hbd11.trans (hbe13.mono hbd11.size)
                have hd14 := hd8.below (hbd13.trans hbk14.1)
                have hG13 := hG11.below hbe13 hG11.lt
                have hG14 : Blk w14 G 51 _ := hbk14.2 _ _ _ hG13 (by decide) (by decide) (by decide)
                have hN13 := hN11.below hbe13 hN11.lt
                have hN14 : Blk w14 G2 51 _ := hbk14.2 _ _ _ hN13 (by decide) (by decide) (by decide)
                have hRL14 := (hRL11.below hbe13 hz11).keep hbk14 hz8
                have hRLn14 := (hRLn11.below hbe13 hz11).keep hbk14 hz8
                have hbw14 : Below w.heap.size w w14 := (hbw11.trans (hbe13.mono hz11)).trans (hbk14.1.mono hz8)
                have hz14 := hbw14.size
                clear hsd0 hsd1 hsd2 hsd3 hsd4 hs13 hs12 hs11 hc11 hc12 hc13 hbd13 hG13 hN13 hG11 hN11 hRL11 hRLn11 hRLl11 hRLl12 hM11 hbw12 hbw11 hbd11 hbe13 hown12 hb12 hb13 hEE hd8 hbk14
                go_wp2_with fail
                refine wp_region_held_drew (S := (fun w' => w'.cell? ⟨G2, 0, none⟩ = some (.slice A11 n11 c11) ∧ w'.cell? ⟨G, 0, none⟩ = some (.slice A6 n6 c6))) (by kernel_rfl) ?_ (fun hHeld => ?_)
                · exact ⟨hN14.cell 0, hG14.cell 0⟩
                refine wpAnyH_take (i := 0) (v := ?_) rfl (by kernel_rfl) (by kernel_rfl) (by kernel_rfl) (fun _ _ _ h => h) (Or.inl ⟨by rfl, ?hy⟩) (by assumption) ?_
                case hy => (intro w hSw; (try dsimp only at hSw); go_simp; all_goals with_reducible rfl)
                try simp only [Act.put, List.setIfInBounds_toArray, List.set_cons_zero, List.set_cons_succ]
                refine wpAnyH_take (i := 2) (v := ?_) rfl (by kernel_rfl) (by kernel_rfl) (by kernel_rfl) (fun _ _ _ h => h) (Or.inl ⟨by rfl, ?hy⟩) (by assumption) ?_
                case hy => (intro w hSw; (try dsimp only at hSw); go_simp; all_goals with_reducible rfl)
                try simp only [Act.put, List.setIfInBounds_toArray, List.set_cons_zero, List.set_cons_succ]
                refine wpAnyH_take (i := 3) (v := ?_) rfl (by kernel_rfl) (by kernel_rfl) (by kernel_rfl) (fun _ _ _ h => h) (Or.inl ⟨by rfl, ?hy⟩) (by assumption) ?_
                case hy => (intro w hSw; (try dsimp only at hSw); go_simp; all_goals with_reducible rfl)
                try simp only [Act.put, List.setIfInBounds_toArray, List.set_cons_zero, List.set_cons_succ]
                refine wpAnyH_ready (rs := [1]) (by kernel_rfl) (by simp) (AllReadyH.cons rfl (fun K hK => ?_) AllReadyH.nil)
                (go_simp; (go_at_call 20; go_must (refine (files_s w14.drew (show DKd w8.heap.size w14.drew gc rc d3 from hc14) hFit3).mono ?_; rintro e w15 ⟨v15, rfl, hown15, hb15⟩)); have hb15 : Below w14.heap.size w14 w15 := (Below.refl _ w14).drew.trans (show Below w14.heap.size w14.drew w15 from hb15); obtain ⟨A15, n15, c15, rfl⟩ := own_sliceN hown15; have HN15 : Hid (n15 = d3.l.length) := own_len3 hown15; rw [← HN15.out] at hown15; have hN15 := hN14.below hb15 hN14.lt; have hG15 := hG14.below hb15 hG14.lt; have hd15 := hd14.below hb15; have hRL15 := hRL14.below hb15 hz14; have hRLn15 := hRLn14.below hb15 hz14; have hbw15 := hbw14.trans (hb15.mono hz14))
                refine hK.out _ _ ?_ (fun hHeld => ?_)
                · exact ⟨hN15.cell 0, hG15.cell 0⟩
                clear hK K
                try simp only [Act.put, List.setIfInBounds_toArray, List.set_cons_zero, List.set_cons_succ]
                refine wpAnyH_ready (rs := [4]) (by kernel_rfl) (by simp) (AllReadyH.cons rfl (fun K hK => ?_) AllReadyH.nil)
                (go_simp; (go_at_call 17; go_must (have hrA := Reads.of_own3 hown15; have hrB := hRLn15.reads hbw15.size; have hnn : n11 = n15 := (by have h1 := hRLn15.len; have h2 := HN15.out; omega); subst hnn; rw [dvs_afs] at hrA hrB; refine (rsame_yes (c := c15) (c' := c11) w15 hrA hrB (by have h1 := hFit3.num; have h2 := HN15.out; omega)).mono ?_; rintro e w16 ⟨rfl, hb16⟩)); have hN16 := hN15.below hb16 hN15.lt; have hG16 := hG15.below hb16 hG15.lt; have hd16 := hd15.below hb16; have hRL16 := hRL15.below hb16 hbw15.size; have hbw16 := hbw15.trans (hb16.mono hbw15.size))
                refine hK.out _ _ ?_ (fun hHeld => ?_)
                · exact ⟨hN16.cell 0, hG16.cell 0⟩
                clear hK K
                try simp only [Act.put, List.setIfInBounds_toArray, List.set_cons_zero, List.set_cons_succ]
                refine wpAnyH_take (i := 5) (v := ?_) rfl (by kernel_rfl) (by kernel_rfl) (by kernel_rfl) (fun _ _ _ h => h) (Or.inl ⟨by rfl, ?hy⟩) (by assumption) ?_
                case hy => (intro w hSw; (try dsimp only at hSw); go_simp; all_goals with_reducible rfl)
                try simp only [Act.put, List.setIfInBounds_toArray, List.set_cons_zero, List.set_cons_succ]
                refine wpAnyH_take (i := 6) (v := ?_) rfl (by kernel_rfl) (by kernel_rfl) (by kernel_rfl) (fun _ _ _ h => h) (Or.inl ⟨by rfl, ?hy⟩) (by assumption) ?_
                case hy => (intro w hSw; (try dsimp only at hSw); go_simp; all_goals with_reducible rfl)
                try simp only [Act.put, List.setIfInBounds_toArray, List.set_cons_zero, List.set_cons_succ]
                refine wpAnyH_take (i := 8) (v := ?_) rfl (by kernel_rfl) (by kernel_rfl) (by kernel_rfl) (fun _ _ _ h => h) (Or.inl ⟨by rfl, ?hy⟩) (by assumption) ?_
                case hy => (intro w hSw; (try dsimp only at hSw); go_simp; all_goals with_reducible rfl)
                try simp only [Act.put, List.setIfInBounds_toArray, List.set_cons_zero, List.set_cons_succ]
                refine wpAnyH_take (i := 9) (v := ?_) rfl (by kernel_rfl) (by kernel_rfl) (by kernel_rfl) (fun _ _ _ h => h) (Or.inl ⟨by rfl, ?hy⟩) (by assumption) ?_
                case hy => (intro w hSw; (try dsimp only at hSw); go_simp; all_goals with_reducible rfl)
                try simp only [Act.put, List.setIfInBounds_toArray, List.set_cons_zero, List.set_cons_succ]
                refine wpAnyH_ready (rs := [7]) (by kernel_rfl) (by simp) (AllReadyH.cons rfl (fun K hK => ?_) AllReadyH.nil)
                (go_simp; (go_at_call 20; go_must (refine (files_s w16 hd16 hFit1).mono ?_; rintro e w17 ⟨v17, rfl, hown17, hb17⟩)); obtain ⟨A17, n17, c17, rfl⟩ := own_sliceN hown17; have HN17 : Hid (n17 = d1.l.length) := own_len3 hown17; have hown17 : w17.ownsRow w16.heap.size 27 3 _ d1.l.length (dvs d1.l) := hown17; rw [← HN17.out] at hown17; have hN17 := hN16.below hb17 hN16.lt; have hG17 := hG16.below hb17 hG16.lt; have hRL17 := hRL16.below hb17 hbw16.size; have hbw17 := hbw16.trans (hb17.mono hbw16.size))
                refine hK.out _ _ ?_ (fun hHeld => ?_)
                · exact ⟨hN17.cell 0, hG17.cell 0⟩
                clear hK K
                try simp only [Act.put, List.setIfInBounds_toArray, List.set_cons_zero, List.set_cons_succ]
                refine wpAnyH_ready (rs := [10]) (by kernel_rfl) (by simp) (AllReadyH.cons rfl (fun K hK => ?_) AllReadyH.nil)
                (go_simp; (go_at_call 17; go_must (have hrA := Reads.of_own3 hown17; have hrB := hRL17.reads hbw17.size; have hnn : n6 = n17 := (by have h1 := hRL17.len; have h2 := HN17.out; omega); subst hnn; rw [dvs_afs] at hrA hrB; refine (rsame_yes (c := c17) (c' := c6) w17 hrA hrB (by have h1 := hFit1.num; have h2 := HN17.out; omega)).mono ?_; rintro e w18 ⟨rfl, hb18⟩)); have hN18 := hN17.below hb18 hN17.lt; have hG18 := hG17.below hb18 hG17.lt; have hbw18 := hbw17.trans (hb18.mono hbw17.size))
                refine hK.out _ _ ?_ (fun hHeld => ?_)
                · exact ⟨hN18.cell 0, hG18.cell 0⟩
                clear hK K
                try simp only [Act.put, List.setIfInBounds_toArray, List.set_cons_zero, List.set_cons_succ]
                refine wpAnyH_take (i := 11) (v := ?_) rfl (by kernel_rfl) (by kernel_rfl) (by kernel_rfl) (fun _ _ _ h => h) (Or.inl ⟨by rfl, ?hy⟩) (by assumption) ?_
                case hy => (intro w hSw; (try dsimp only at hSw); go_simp; all_goals with_reducible rfl)
                try simp only [Act.put, List.setIfInBounds_toArray, List.set_cons_zero, List.set_cons_succ]
                refine wpAnyH_take (i := 12) (v := ?_) rfl (by kernel_rfl) (by kernel_rfl) (by kernel_rfl) (fun _ _ _ h => h) (Or.inl ⟨by rfl, ?hy⟩) (by assumption) ?_
                case hy => (intro w hSw; (try dsimp only at hSw); go_simp; all_goals with_reducible rfl)
                try simp only [Act.put, List.setIfInBounds_toArray, List.set_cons_zero, List.set_cons_succ]
                refine wpAnyH_ready (rs := [13]) (by kernel_rfl) (by simp) (AllReadyH.cons rfl (fun K hK => ?_) AllReadyH.nil)
                (go_simp; (go_at_call 12; go_must (refine (works_any _).mono ?_; rintro e w19 ⟨rfl, hb19⟩)); have hN19 := hN18.below hb19 hN18.lt; have hG19 := hG18.below hb19 hG18.lt; have hbw19 := hbw18.trans (hb19.mono hbw18.size))
                refine hK.out _ _ ?_ (fun hHeld => ?_)
                · exact ⟨hN19.cell 0, hG19.cell 0⟩
                clear hK K
                try simp only [Act.put, List.setIfInBounds_toArray, List.set_cons_zero, List.set_cons_succ]
                refine wpAnyH_take (i := 14) (v := ?_) rfl (by kernel_rfl) (by kernel_rfl) (by kernel_rfl) (fun _ _ _ h => h) (Or.inl ⟨by rfl, ?hy⟩) (by assumption) ?_
                case hy => (intro w hSw; (try dsimp only at hSw); go_simp; all_goals with_reducible rfl)
                try simp only [Act.put, List.setIfInBounds_toArray, List.set_cons_zero, List.set_cons_succ]
                refine wpAnyH_take (i := 15) (v := ?_) rfl (by kernel_rfl) (by kernel_rfl) (by kernel_rfl) (fun _ _ _ h => h) (Or.inl ⟨by rfl, ?hy⟩) (by assumption) ?_
                case hy => (intro w hSw; (try dsimp only at hSw); go_simp; all_goals with_reducible rfl)
                try simp only [Act.put, List.setIfInBounds_toArray, List.set_cons_zero, List.set_cons_succ]
                refine wpAnyH_done (by kernel_rfl) ?_ _
                (go_simp; go_wp2_with fail; go_ret; first | exact ⟨rfl, hbw19⟩ | exact ⟨(by simp), hbw19⟩ | exact ⟨ret_bool (by simp), hbw19⟩)
          · obtain ⟨Z, hZ⟩ : ∃ Z, Z = chkF l := ⟨_, rfl⟩
            rw [← hZ] at hck HCK0
            have HCK := hide HCK0
            have hZ0 : (Z != 0) = true := by simpa using hck
            clear HCK0 hck hZ
            go_wp2_with (first
              | (go_at_call 13; go_must (refine HF.out.mono ?_; rintro e w1 ⟨rfl, hb1⟩; have hs1b := hsb.below hb1 hsb.lt; have c0 : w1.cell? ⟨w.heap.size, 0, none⟩ = some (.int .i64 wh) := hs1b.cell 0; have c1 : w1.cell? ⟨w.heap.size, 1, none⟩ = some (.string name) := hs1b.cell 1; have c2 : w1.cell? ⟨w.heap.size, 2, none⟩ = some (.string tn) := hs1b.cell 2; have c3 : w1.cell? ⟨w.heap.size, 3, none⟩ = some (.slice M m mc) := hs1b.cell 3; have c4 : w1.cell? ⟨w.heap.size, 4, none⟩ = some (.int .i64 z) := hs1b.cell 4))
              | (go_at_call 25; go_must (refine (HSm.out _).mono ?_; rintro e w2 ⟨rfl, hb2⟩; have hs2b := hs1b.below hb2 hs1b.lt; have e0 : w2.cell? ⟨w.heap.size, 0, none⟩ = some (.int .i64 wh) := hs2b.cell 0; have e1 : w2.cell? ⟨w.heap.size, 1, none⟩ = some (.string name) := hs2b.cell 1; have e2 : w2.cell? ⟨w.heap.size, 2, none⟩ = some (.string tn) := hs2b.cell 2; have e3 : w2.cell? ⟨w.heap.size, 3, none⟩ = some (.slice M m mc) := hs2b.cell 3; have e4 : w2.cell? ⟨w.heap.size, 4, none⟩ = some (.int .i64 z) := hs2b.cell 4; clear c0 c1 c2 c3 c4))
              | (go_at_call 15; go_must (refine (HCK.out w2 ((((hr0.below (hb1.mono hb0.size)).below (hb2.mono (Nat.le_trans hb0.size hb1.size)))).more (Nat.le_trans (Nat.le_trans hb0.size hb1.size) hb2.size))).mono ?_; rintro e w3 ⟨rfl, hb3⟩))
              | (go_at_call 12; go_must (refine (works_any _).mono ?_; rintro e w4 ⟨rfl, hb4⟩))
              | fail)
            go_ret
            exact ⟨rfl, hb0.trans ((hb1.trans ((hb2.trans ((hb3.trans (hb4.mono hb3.size)).mono hb2.size)).mono hb1.size)).mono hb0.size)⟩
end Go.Proofs.Ytaaaljpnhfmbpaa
