/- The walk of the law DiskHalts (package taborlaw02). Conditions: those of the theorem. -/
import Derived.Test.YtaaaljpnhfmbpaaDkHa
import Derived.Test.YtaaaljpnhfmbpaaDkN
import Derived.Deep.RegionHeld3
import Derived.Lib.MinMax
namespace Go.Proofs.Ytaaaljpnhfmbpaa
open Go.RowKit Go.Shelf
set_option linter.unusedVariables false
set_option linter.unusedSimpArgs false

/-- what holds ahead of each round: so many steps are done -/
def HaltInv (B B4 g r G sn : Nat) (w0 : World) (i : Value) (w : World) : Prop := ∃ (t : Nat) (d : DS) (AA : Option Addr) (nn cc : Nat), t ≤ sn ∧ i = .int .i64 t ∧ DSOk d t ∧ DKd B4 w g r d ∧ Blk w G 51 #[.slice AA nn cc, .int .i64 d.st, .int .i64 d.lf] ∧ RL B w AA nn cc d.l ∧ Below B w0 w ∧ B4 ≤ w.heap.size
set_option maxHeartbeats 16000000 in
set_option maxRecDepth 100000 in
theorem diskHalts_any (A : Option Addr) (n c : Nat) (l : List AF) (SA : Option Addr) (sn sc : Nat) (sv : List SV) (z : Int) (w : World) (hr : Reads w w.heap.size 3 A n (afs l)) (hn : n ≤ maxLen) (hs : ∀ x ∈ l, x.name.size ≤ 140737488351232 ∧ x.b.size ≤ 140737488351232) (hS : Reads w w.heap.size 5 SA sn (svs5 sv)) (hsn : sn ≤ maxLen) (hok : ∀ s ∈ sv, StepOk w s) (hzm : z ≤ 9223372036854775807) :
    Calls Try.prog 7 #[.slice A n c, .slice SA sn sc, .int .i64 z] w fun e w' => e = .returned (.bool true) ∧ Below w.heap.size w w' := by
  have HL := hide hr.alen
  have HF := hide (few_any (c := c) w hr hn hs)
  have HOK := hide hok
  unfold maxLen at hsn
  clear hok
  go_enter Try.func7, Try.ntmps7
  cases hd3 : decide (wsum l ≤ 3000) with
  | false =>
    rw [hd3] at HF
    go_wp2_with (first
      | (go_at_call 13; go_must (refine HF.out.mono ?_; rintro e w1 ⟨rfl, hb1⟩))
      | (go_at_call 12; go_must (refine (works_any _).mono ?_; rintro e w2 ⟨rfl, hb2⟩))
      | fail)
    go_ret
    exact ⟨rfl, hb1.trans (hb2.mono hb1.size)⟩
  | true =>
    rw [hd3] at HF
    have hw1 := of_decide_eq_true hd3
    have hn3 : n ≤ 3000 := by have := wsum_len l; rw [HL.out] at this; omega
    have HCK0 := fun (w : World) (hr : Reads w w.heap.size 3 A n (afs l)) => rcheck_any (c := c) w hr (by omega) hs
    clear hd3 hw1
    by_cases hck : chkF l = 0
    · rw [hck] at HCK0
      have HCK := hide HCK0
      have HC := hide hck
      clear HCK0 hck
      by_cases h20 : 20 < sn
      · have d20 : decide (20 < sn) = true := decide_eq_true h20
        have d20' : decide ((20 : Int) < (sn : Int)) = true := decide_eq_true (by omega)
        go_wp2_with (first
          | (go_at_call 13; go_must (refine HF.out.mono ?_; rintro e w1 ⟨rfl, hb1⟩))
          | (go_at_call 15; go_must (refine (HCK.out w1 ((hr.below hb1).more hb1.size)).mono ?_; rintro e w3 ⟨rfl, hb3⟩))
          | (go_at_call 12; go_must (refine (works_any _).mono ?_; rintro e w4 ⟨rfl, hb4⟩))
          | fail)
        go_ret
        exact ⟨rfl, hb1.trans ((hb3.trans (hb4.mono hb3.size)).mono hb1.size)⟩
      · have d20 : decide (20 < sn) = false := decide_eq_false h20
        have d20' : decide ((20 : Int) < (sn : Int)) = false := decide_eq_false (by omega)
        go_upto_region 3 with (first
          | (go_at_call 13; go_must (refine HF.out.mono ?_; rintro e w1 ⟨rfl, hb1⟩))
          | (go_at_call 15; go_must (refine (HCK.out w1 ((hr.below hb1).more hb1.size)).mono ?_; rintro e w3 ⟨rfl, hb3⟩))
          | (go_at_call 12; go_must (refine (works_any _).mono ?_; rintro e w4 ⟨rfl, hb4⟩))
          | fail)
        clear d20 d20'
        obtain ⟨_, _, hrise, hoks⟩ := chk_ok l _ _ HC.out
        have HO := hide hoks
        have HRi := hide hrise
        have hbw3 : Below w.heap.size w w3 := hb1.trans (hb3.mono hb1.size)
        have hr3 := hr.below hbw3
        have hS3 := hS.below hbw3
        have hz3 := hbw3.size
        obtain ⟨w4, hw4⟩ : ∃ w4, w4 = w3 := ⟨_, rfl⟩
        rw [← hw4] at hbw3 hr3 hS3 hz3
        simp only [← hw4]
        have HW4 := hide hw4
        clear hw4 hrise hoks hb1 hb3 hr HF HCK
        have HFr := hide (from_any (c := c) w4 (hr3.more hz3) (by omega) hs)
        go_upto_region 4 with (first
          | (go_at_call 14
             go_must (
             refine HFr.out.mono ?_
             rintro e w5 ⟨hor, hb5⟩
             have hor2 : ∃ g r fs, e = .returned (.tuple #[.pointer (some ⟨g, 0, none⟩), .int .i64 0]) ∧ DK w4.heap.size w5 g r fs 0 false 0 ∧ fs.map fdat = l.map adat := by
               rcases hor with ⟨h0, _⟩ | ⟨_, h⟩
               · exact absurd HC.out h0
               · exact h
             obtain ⟨g, r, fs, rfl, hdk, hfs⟩ := hor2))
          | fail)
        have hd5 : DKd w4.heap.size w5 g r ⟨l.map adat, 0, false, 0⟩ := ⟨fs, hdk, by rw [hfs], HRi.out⟩
        have hK0 := fit_of HO.out hs (K := 3000) (by rw [HL.out]; exact hn3)
        have hbw5 : Below w.heap.size w w5 := hbw3.trans (hb5.mono hz3)
        have hdv5 : Reads w5 w.heap.size 3 A n (dvs (l.map adat)) := by
          rw [← afs_back HO.out]
          exact hr3.below (hb5.mono hz3)
        have hS5 := hS3.below (hb5.mono hz3)
        have hz45 := hb5.size
        clear hor hdk hfs HFr hbw3 hr3 hS3 hb5
        go_upto_region 5 with (first
          | (go_at_call 29
             go_must (
             refine (halt_op (n := 0) w5 hd5).mono ?_
             rintro e w6 ⟨rfl, hd6, hbk6⟩))
          | fail)
        go_upto_region 6 with (first
          | (go_at_call 29
             go_must (
             refine (halt_op (n := z) w6 hd6).mono ?_
             rintro e w7 ⟨rfl, hd7, hbk7⟩))
          | fail)
        have hd7 : DKd w4.heap.size w7 g r ⟨l.map adat, 0, true, max z 0⟩ := hd7
        have hbk57 := hbk6.trans hbk7
        have hbw7 : Below w.heap.size w w7 := hbw5.trans (hbk57.1.mono hz3)
        have hdv7 := hdv5.below (hbk57.1.mono hz3)
        have hS7 := hS5.below (hbk57.1.mono hz3)
        have hz47 := Nat.le_trans hz45 hbk57.size
        have hmx0 : (0 : Int) ≤ max z 0 := by omega
        have hmx1 : max z 0 ≤ 9223372036854775807 := by omega
        have hok0 : DSOk ⟨l.map adat, 0, true, max z 0⟩ 0 := ⟨hK0, Int.le_refl 0, Int.le_refl 0, rfl, hmx0, hmx1⟩
        clear hd6 hd5 hbk6 hbk7 hbk57 hdv5 hS5 hbw5 hmx0 hmx1 hK0
        go_upto_region 7 with (first
          | (go_at_call 27
             go_must (
             refine (rnew_any w7).mono ?_
             rintro e w8 ⟨rfl, hb8⟩))
          | fail)
        have hG9 := Blk.new w8 51 #[.slice A n c, .int .i64 0, .int .i64 (-1)]
        have hb9 : Below w7.heap.size w7 (w8.alloc (.cells #[.slice A n c, .int .i64 0, .int .i64 (-1)] 51)) := hb8.alloc hb8.size _
        have hz7 := Nat.le_trans hz3 hz47
        obtain ⟨G, hGe, hGl⟩ : ∃ G, G = w8.heap.size ∧ w7.heap.size ≤ G := ⟨_, rfl, hb8.size⟩
        rw [← hGe] at hG9
        rw [← hGe]
        clear hGe
        generalize w8.alloc (.cells #[.slice A n c, .int .i64 0, .int .i64 (-1)] 51) = w9 at *
        have g2 := hG9.cell 2
        have gf := fun i => hG9.frozen i
        go_upto_region 8 with (fail)
        clear g2 gf
        have hG10 := hG9.set_ 2 (.int .i64 (max z 0))
        have hb10 := hb9.setCell (p := ⟨G, 2, none⟩) hGl (.int .i64 (max z 0))
        have hbw10 := hbw7.trans (hb10.mono hz7)
        have hd10 := hd7.below hb10
        have hRL10 : RL w.heap.size _ A n c (l.map adat) := .inl (hdv7.below (hb10.mono hz7))
        have hS10 := hS7.below (hb10.mono hz7)
        have hz10 := Nat.le_trans hz47 hb10.size
        clear hG9 hb9 hb8 hd7 hdv7 hS7 hbw7 hz47
        generalize w9.setCell ⟨G, 2, none⟩ (.int .i64 (max z 0)) = w10 at *
        have HINV : Hid (HaltInv w.heap.size w4.heap.size g r G sn w (.int .i64 0) w10) := ⟨0, ⟨l.map adat, 0, true, max z 0⟩, A, n, c, Nat.zero_le _, rfl, hok0, hd10, hG10, hRL10, hbw10, hz10⟩
        have hGl' : w.heap.size ≤ G := Nat.le_trans hz7 hGl
        clear hok0 hd10 hG10 hRL10 hbw10 hGl hz7 hz10
        go_wp2_with fail
        go_loopw [10] (fun i wr => HaltInv w.heap.size w4.heap.size g r G sn w i wr) (fun i _ => sn - (intOf i).toNat)
        case atStart => exact HINV.out
        case round =>
          obtain ⟨t, d, AA, nn, cc, htn, rfl, hok, hd, hG, hRL, hbw, hz4⟩ := hrel
          by_cases ht : t < sn
          · have hf1 : decide (t < sn) = true := decide_eq_true ht
            have hf2 : decide ((t : Int) < (sn : Int)) = true := decide_eq_true (by omega)
            have ht0 : (0 : Int) ≤ (t : Int) := by omega
            have htI : (t : Int) < (sn : Int) := by omega
            obtain ⟨b, o, s, rfl, hb, hst, k0, k1, k2, k3, k4⟩ := (hS.below hbw).svAt ht
            have hso := HOK.out s (List.mem_of_getElem? hst)
            obtain ⟨what, name, tn, M, m, mc, bs, zz⟩ := s
            obtain ⟨hM, hmm, hs1, hs2⟩ := hso
            dsimp only at k0 k1 k2 k3 k4 hM hmm hs1 hs2
            have hbb : b < wr.heap.size := Nat.lt_of_lt_of_le hb hbw.size
            have HSm := hide (fun w => small_any what name tn M m mc zz w)
            clear HINV hS10 hst hb10 HOK
            cases hsm : (decide (name.size ≤ 200) && decide (tn.size ≤ 200) && decide (m ≤ 1000)) with
            | false =>
              rw [hsm] at HSm
              clear hsm
              go_wp2_with (first
                | (go_at_call 25; go_must (refine (HSm.out _).mono ?_; rintro e w2 ⟨rfl, hb2⟩); have j0 := (hb2.cell (p := ⟨b, o + t * 5, none⟩) hbb).trans k0)
                | (go_at_call 12; go_must (refine (works_any _).mono ?_; rintro e w3 ⟨rfl, hb3⟩))
                | fail)
              go_ret
              exact ⟨rfl, hbw.trans ((hb2.trans (hb3.mono hb2.size)).mono hbw.size)⟩
            | true =>
              rw [hsm] at HSm
              have hm1 : m ≤ 1000 := by
                simp only [Bool.and_eq_true, decide_eq_true_eq] at hsm
                exact hsm.2
              clear hsm
              by_cases hw0 : what < 0
              · have d0 : decide (what < 0) = true := decide_eq_true hw0
                clear hw0
                go_wp2_with (first
                  | (go_at_call 25; go_must (refine (HSm.out _).mono ?_; rintro e w2 ⟨rfl, hb2⟩); have j0 := (hb2.cell (p := ⟨b, o + t * 5, none⟩) hbb).trans k0)
                  | (go_at_call 12; go_must (refine (works_any _).mono ?_; rintro e w3 ⟨rfl, hb3⟩))
                  | fail)
                go_ret
                exact ⟨rfl, hbw.trans ((hb2.trans (hb3.mono hb2.size)).mono hbw.size)⟩
              · have d0 : decide (what < 0) = false := decide_eq_false hw0
                by_cases hw4 : 4 < what
                · have d4 : decide ((4 : Int) < what) = true := decide_eq_true hw4
                  clear hw0 hw4
                  go_wp2_with (first
                    | (go_at_call 25; go_must (refine (HSm.out _).mono ?_; rintro e w2 ⟨rfl, hb2⟩); have j0 := (hb2.cell (p := ⟨b, o + t * 5, none⟩) hbb).trans k0)
                    | (go_at_call 12; go_must (refine (works_any _).mono ?_; rintro e w3 ⟨rfl, hb3⟩))
                    | fail)
                  go_ret
                  exact ⟨rfl, hbw.trans ((hb2.trans (hb3.mono hb2.size)).mono hbw.size)⟩
                · have d4 : decide ((4 : Int) < what) = false := decide_eq_false hw4
                  obtain ⟨wh, rfl⟩ : ∃ wh : Nat, what = wh := ⟨what.toNat, by omega⟩
                  have hwh : wh ≤ 4 := by omega
                  clear hw0 hw4
                  go_upto_region 13 with (first
                    | (go_at_call 25; go_must (refine (HSm.out _).mono ?_; rintro e w2 ⟨rfl, hb2⟩); have j0 := (hb2.cell (p := ⟨b, o + t * 5, none⟩) hbb).trans k0)
                    | (go_at_call 12; go_must (refine (works_any _).mono ?_; rintro e w3 ⟨rfl, hb3⟩))
                    | fail)
                  have hd2 := hd.below hb2
                  have hG2 := hG.below hb2 hG.lt
                  have hRL2 := hRL.below hb2 hbw.size
                  have hbw2 := hbw.trans (hb2.mono hbw.size)
                  have hz2 := hbw2.size
                  have hbB := hb
                  have hRd2 := hRL2.reads hz2
                  have hnn2 := hRL2.len
                  have hfn := hok.fit.num
                  have hM2 := hM.below hbw2
                  have hz42 := Nat.le_trans hz4 hb2.size
                  have hflS : ∀ x ∈ d.l, x.2.1.length ≤ 1048576 ∧ x.2.2 ≤ 1048576 := fun x hx => (hok.fit.all x hx).2
                  have hle : leftR d = d.lf := hok.left
                  rw [← hle] at hG2
                  have hl0 := (hb2.cell (p := ⟨b, o + t * 5, none⟩) hbb).trans k0
                  have hl1 := (hb2.cell (p := ⟨b, o + t * 5 + 1, none⟩) hbb).trans k1
                  have hl2 := (hb2.cell (p := ⟨b, o + t * 5 + 2, none⟩) hbb).trans k2
                  have hl3 := (hb2.cell (p := ⟨b, o + t * 5 + 3, none⟩) hbb).trans k3
                  have hl4 := (hb2.cell (p := ⟨b, o + t * 5 + 4, none⟩) hbb).trans k4
                  have hbb2 : b < w2.heap.size := Nat.lt_of_lt_of_le hbb hb2.size
                  have hS13 : ∀ w', Below w2.heap.size w2 w' → (fun w' => (w'.cell? ⟨b, o + t * 5, none⟩ = some (.int .i64 wh) ∧ w'.cell? ⟨b, o + t * 5 + 1, none⟩ = some (.string name) ∧ w'.cell? ⟨b, o + t * 5 + 2, none⟩ = some (.string tn) ∧ w'.cell? ⟨b, o + t * 5 + 3, none⟩ = some (.slice M m mc) ∧ w'.cell? ⟨b, o + t * 5 + 4, none⟩ = some (.int .i64 zz)) ∧ w'.cell? ⟨G, 0, none⟩ = some (.slice AA nn cc) ∧ w'.cell? ⟨G, 1, none⟩ = some (.int .i64 d.st) ∧ w'.cell? ⟨G, 2, none⟩ = some (.int .i64 (leftR d))) w' := fun w' h => by
                    have h' := hG2.below h hG2.lt
                    exact ⟨⟨(h.cell (p := ⟨b, o + t * 5, none⟩) hbb2).trans hl0, (h.cell (p := ⟨b, o + t * 5 + 1, none⟩) hbb2).trans hl1, (h.cell (p := ⟨b, o + t * 5 + 2, none⟩) hbb2).trans hl2, (h.cell (p := ⟨b, o + t * 5 + 3, none⟩) hbb2).trans hl3, (h.cell (p := ⟨b, o + t * 5 + 4, none⟩) hbb2).trans hl4⟩, h'.cell 0, h'.cell 1, h'.cell 2⟩
                  have hbk0 : Below w2.heap.size w2 w2.drew := (Below.refl _ w2).drew
                  have HLE := hide hle
                  clear hle k0 k1 k2 k3 k4 hG hRL hM hb hb2 j0 hl0 hl1 hl2 hl3 hl4
                  refine wp_region_held_drew (S := (fun w' => (w'.cell? ⟨b, o + t * 5, none⟩ = some (.int .i64 wh) ∧ w'.cell? ⟨b, o + t * 5 + 1, none⟩ = some (.string name) ∧ w'.cell? ⟨b, o + t * 5 + 2, none⟩ = some (.string tn) ∧ w'.cell? ⟨b, o + t * 5 + 3, none⟩ = some (.slice M m mc) ∧ w'.cell? ⟨b, o + t * 5 + 4, none⟩ = some (.int .i64 zz)) ∧ w'.cell? ⟨G, 0, none⟩ = some (.slice AA nn cc) ∧ w'.cell? ⟨G, 1, none⟩ = some (.int .i64 d.st) ∧ w'.cell? ⟨G, 2, none⟩ = some (.int .i64 (leftR d)))) (by kernel_rfl) ?_ (fun hHeld => ?_)
                  · exact hS13 _ ((Below.refl _ w2).drew)
                  refine wpAnyH_take (i := 0) (v := ?_) rfl (by kernel_rfl) (by kernel_rfl) (by kernel_rfl) (fun _ _ _ h => h) (Or.inl ⟨by rfl, ?hy⟩) (by assumption) ?_
                  case hy => (intro w hSw; (try dsimp only at hSw); go_simp; all_goals with_reducible rfl)
                  try simp only [Act.put, List.setIfInBounds_toArray, List.set_cons_zero, List.set_cons_succ]
                  refine wpAnyH_take (i := 1) (v := ?_) rfl (by kernel_rfl) (by kernel_rfl) (by kernel_rfl) (fun _ _ _ h => h) (Or.inl ⟨by rfl, ?hy⟩) (by assumption) ?_
                  case hy => (intro w hSw; (try dsimp only at hSw); go_simp; all_goals with_reducible rfl)
                  try simp only [Act.put, List.setIfInBounds_toArray, List.set_cons_zero, List.set_cons_succ]
                  refine wpAnyH_take (i := 2) (v := ?_) rfl (by kernel_rfl) (by kernel_rfl) (by kernel_rfl) (fun _ _ _ h => h) (Or.inl ⟨by rfl, ?hy⟩) (by assumption) ?_
                  case hy => (intro w hSw; (try dsimp only at hSw); go_simp; all_goals with_reducible rfl)
                  try simp only [Act.put, List.setIfInBounds_toArray, List.set_cons_zero, List.set_cons_succ]
                  refine wpAnyH_take (i := 3) (v := ?_) rfl (by kernel_rfl) (by kernel_rfl) (by kernel_rfl) (fun _ _ _ h => h) (Or.inl ⟨by rfl, ?hy⟩) (by assumption) ?_
                  case hy => (intro w hSw; (try dsimp only at hSw); go_simp; all_goals with_reducible rfl)
                  try simp only [Act.put, List.setIfInBounds_toArray, List.set_cons_zero, List.set_cons_succ]
                  refine wpAnyH_take (i := 4) (v := ?_) rfl (by kernel_rfl) (by kernel_rfl) (by kernel_rfl) (fun _ _ _ h => h) (Or.inl ⟨by rfl, ?hy⟩) (by assumption) ?_
                  case hy => (intro w hSw; (try dsimp only at hSw); go_simp; all_goals with_reducible rfl)
                  try simp only [Act.put, List.setIfInBounds_toArray, List.set_cons_zero, List.set_cons_succ]
                  refine wpAnyH_ready (rs := [5, 9]) (by kernel_rfl) (by simp) (AllReadyH.cons rfl (fun K hK => ?_) (AllReadyH.cons rfl (fun K hK => ?_) AllReadyH.nil))
                  · go_simp
                    (go_at_call 26; go_must (refine (rdo_any wh hwh (d := d) (c := cc) (mc := mc) (z := zz) (name := name) (tn := tn) (bs := bs) _ ((hRd2.below hbk0).more hbk0.size) (by omega) hflS hs1 hs2 ((hM2.below (hbk0.mono hz2)).more (Nat.le_trans hz2 hbk0.size)) (by omega) hok.st0 (by have := hok.st1; omega) hok.lf0 hok.lf1).mono ?_; rintro e wD1 ⟨⟨A6, n6, c6, rfl, hro1⟩, hbD1⟩))
                    have hRLa1 : RL w.heap.size w2.drew AA nn cc d.l := hRL2.below hbk0 hz2
                    have hRN1 := hRLa1.out hbD1 (Nat.le_trans hz2 hbk0.size) hro1
                    have hbk1 := hbk0.trans (hbD1.mono hbk0.size)
                    refine hK.out _ _ ?_ (fun hHeld => ?_)
                    · exact hS13 _ hbk1
                    clear hK K
                    try simp only [Act.put, List.setIfInBounds_toArray, List.set_cons_zero, List.set_cons_succ]
                    refine wpAnyH_take (i := 6) (v := ?_) rfl (by kernel_rfl) (by kernel_rfl) (by kernel_rfl) (fun _ _ _ h => h) (Or.inl ⟨by rfl, ?hy⟩) (by assumption) ?_
                    case hy => (intro w hSw; (try dsimp only at hSw); go_simp; all_goals with_reducible rfl)
                    try simp only [Act.put, List.setIfInBounds_toArray, List.set_cons_zero, List.set_cons_succ]
                    refine wpAnyH_take (i := 7) (v := ?_) rfl (by kernel_rfl) (by kernel_rfl) (by kernel_rfl) (fun _ _ _ h => h) (Or.inl ⟨by rfl, ?hy⟩) (by assumption) ?_
                    case hy => (intro w hSw; (try dsimp only at hSw); go_simp; all_goals with_reducible rfl)
                    try simp only [Act.put, List.setIfInBounds_toArray, List.set_cons_zero, List.set_cons_succ]
                    refine wpAnyH_take (i := 8) (v := ?_) rfl (by kernel_rfl) (by kernel_rfl) (by kernel_rfl) (fun _ _ _ h => h) (Or.inl ⟨by rfl, ?hy⟩) (by assumption) ?_
                    case hy => (intro w hSw; (try dsimp only at hSw); go_simp; all_goals with_reducible rfl)
                    try simp only [Act.put, List.setIfInBounds_toArray, List.set_cons_zero, List.set_cons_succ]
                    refine wpAnyH_ready (rs := [9]) (by kernel_rfl) (by simp) (AllReadyH.cons rfl (fun K hK => ?_) AllReadyH.nil)
                    go_simp
                    have hH2 := Blk.new (wD1) 51 #[.slice none 0 0, .int .i64 0, .int .i64 0]
                    have hbk2 : Below w2.heap.size w2 ((wD1).alloc (.cells #[.slice none 0 0, .int .i64 0, .int .i64 0] 51)) := hbk1.alloc hbk1.size _
                    have hRN2 := hRN1.below ((Below.refl _ (wD1)).alloc (Nat.le_refl _) (.cells #[.slice none 0 0, .int .i64 0, .int .i64 0] 51)) (Nat.le_trans hz2 hbk1.size)
                    obtain ⟨H, hHe, hHl⟩ : ∃ H, H = (wD1).heap.size ∧ w2.heap.size ≤ H := ⟨_, rfl, hbk1.size⟩
                    have hH2 : Blk ((wD1).alloc (.cells #[.slice none 0 0, .int .i64 0, .int .i64 0] 51)) (wD1).heap.size 51 #[.slice none 0 0, .int .i64 0, .int .i64 0] := hH2
                    rw [← hHe] at hH2
                    simp only [← hHe]
                    clear hHe
                    refine hK.out _ _ ?_ (fun hHeld => ?_)
                    · exact hS13 _ hbk2
                    clear hK K
                    try simp only [Act.put, List.setIfInBounds_toArray, List.set_cons_zero, List.set_cons_succ]
                    refine wpAnyH_ready (rs := [10]) (by kernel_rfl) (by simp) (AllReadyH.cons rfl (fun K hK => ?_) AllReadyH.nil)
                    have g0 := hH2.cell 0
                    have g1 := hH2.cell 1
                    have g2 := hH2.cell 2
                    have gf := fun i => hH2.frozen i
                    go_simp
                    clear g0 g1 g2 gf
                    have hH3 := ((hH2.set_ 0 (.slice A6 n6 c6)).set_ 1 (.int .i64 (stepD d name (cmdOf wh tn bs zz)).st)).set_ 2 (.int .i64 (leftR (stepD d name (cmdOf wh tn bs zz))))
                    have hbk3 := ((hbk2.setCell (p := ⟨H, 0, none⟩) hHl (.slice A6 n6 c6)).setCell (p := ⟨H, 1, none⟩) hHl (.int .i64 (stepD d name (cmdOf wh tn bs zz)).st)).setCell (p := ⟨H, 2, none⟩) hHl (.int .i64 (leftR (stepD d name (cmdOf wh tn bs zz))))
                    have hRN3 := ((hRN2.far (i := 0) hH2 (by decide) (Nat.le_trans hz2 hHl) (.slice A6 n6 c6)).far (i := 1) (hH2.set_ 0 (.slice A6 n6 c6)) (by decide) (Nat.le_trans hz2 hHl) (.int .i64 (stepD d name (cmdOf wh tn bs zz)).st)).far (i := 2) ((hH2.set_ 0 (.slice A6 n6 c6)).set_ 1 (.int .i64 (stepD d name (cmdOf wh tn bs zz)).st)) (by decide) (Nat.le_trans hz2 hHl) (.int .i64 (leftR (stepD d name (cmdOf wh tn bs zz))))
                    refine hK.out _ _ ?_ (fun hHeld => ?_)
                    · exact hS13 _ hbk3
                    clear hK K
                    try simp only [Act.put, List.setIfInBounds_toArray, List.set_cons_zero, List.set_cons_succ]
                    refine wpAnyH_take (i := 11) (v := ?_) rfl (by kernel_rfl) (by kernel_rfl) (by kernel_rfl) (fun _ _ _ h => h) (Or.inl ⟨by rfl, ?hy⟩) (by assumption) ?_
                    case hy => (intro w hSw; (try dsimp only at hSw); go_simp; all_goals with_reducible rfl)
                    try simp only [Act.put, List.setIfInBounds_toArray, List.set_cons_zero, List.set_cons_succ]
                    refine wpAnyH_done (by kernel_rfl) ?_ _
                    have hH4 := hH3
                    have hbk5 := hbk3
                    have hRN5 := hRN3
                    have hHle := hHl
                    clear hHeld
                    obtain ⟨w5', hw5'⟩ : ∃ x, x = ((((((wD1).alloc (.cells #[.slice none 0 0, .int .i64 0, .int .i64 0] 51))).setCell ⟨H, 0, none⟩ (.slice A6 n6 c6)).setCell ⟨H, 1, none⟩ (.int .i64 (stepD d name (cmdOf wh tn bs zz)).st)).setCell ⟨H, 2, none⟩ (.int .i64 (leftR (stepD d name (cmdOf wh tn bs zz))))) := ⟨_, rfl⟩
                    rw [← hw5'] at hH4 hbk5 hRN5
                    rw [← hw5']
                    clear hw5'
                    have hG5 := hG2.below hbk5 hG2.lt
                    have hd5 := hd2.below hbk5
                    have a0 := hH4.cell 0
                    have a1 := hH4.cell 1
                    have a2 := hH4.cell 2
                    have b0 := hG5.cell 0
                    have b1 := hG5.cell 1
                    have b2 := hG5.cell 2
                    have bf := fun i => hG5.frozen i
                    (go_simp; go_upto_region 15 with (fail))
                    clear a0 a1 a2 b0 b1 b2 bf hH4
                    have hG51 := hG5.set_ 0 (.slice A6 n6 c6)
                    have hG52 := hG51.set_ 1 (.int .i64 (stepD d name (cmdOf wh tn bs zz)).st)
                    have hG6 := hG52.set_ 2 (.int .i64 (leftR (stepD d name (cmdOf wh tn bs zz))))
                    have hd6 : DKd w4.heap.size (((w5'.setCell ⟨G, 0, none⟩ (.slice A6 n6 c6)).setCell ⟨G, 1, none⟩ (.int .i64 (stepD d name (cmdOf wh tn bs zz)).st)).setCell ⟨G, 2, none⟩ (.int .i64 (leftR (stepD d name (cmdOf wh tn bs zz))))) g r d := by
                      obtain ⟨fs, hdk, hp⟩ := hd5
                      exact ⟨fs, ((hdk.setFar (i := 0) hG5 (by decide) (by decide) (by decide) (.slice A6 n6 c6)).setFar (i := 1) hG51 (by decide) (by decide) (by decide) (.int .i64 (stepD d name (cmdOf wh tn bs zz)).st)).setFar (i := 2) hG52 (by decide) (by decide) (by decide) (.int .i64 (leftR (stepD d name (cmdOf wh tn bs zz)))), hp⟩
                    have hRN6 := ((hRN5.far (i := 0) hG5 (by decide) hGl' (.slice A6 n6 c6)).far (i := 1) hG51 (by decide) hGl' (.int .i64 (stepD d name (cmdOf wh tn bs zz)).st)).far (i := 2) hG52 (by decide) hGl' (.int .i64 (leftR (stepD d name (cmdOf wh tn bs zz))))
                    have hb26 : Below w.heap.size w2 (((w5'.setCell ⟨G, 0, none⟩ (.slice A6 n6 c6)).setCell ⟨G, 1, none⟩ (.int .i64 (stepD d name (cmdOf wh tn bs zz)).st)).setCell ⟨G, 2, none⟩ (.int .i64 (leftR (stepD d name (cmdOf wh tn bs zz))))) := (((hbk5.mono hz2).setCell (p := ⟨G, 0, none⟩) hGl' (.slice A6 n6 c6)).setCell (p := ⟨G, 1, none⟩) hGl' (.int .i64 (stepD d name (cmdOf wh tn bs zz)).st)).setCell (p := ⟨G, 2, none⟩) hGl' (.int .i64 (leftR (stepD d name (cmdOf wh tn bs zz))))
                    have hz26 : w2.heap.size ≤ (((w5'.setCell ⟨G, 0, none⟩ (.slice A6 n6 c6)).setCell ⟨G, 1, none⟩ (.int .i64 (stepD d name (cmdOf wh tn bs zz)).st)).setCell ⟨G, 2, none⟩ (.int .i64 (leftR (stepD d name (cmdOf wh tn bs zz))))).heap.size := hb26.size
                    clear hG5 hG51 hG52 hd5 hRN5 hbk5
                    generalize (((w5'.setCell ⟨G, 0, none⟩ (.slice A6 n6 c6)).setCell ⟨G, 1, none⟩ (.int .i64 (stepD d name (cmdOf wh tn bs zz)).st)).setCell ⟨G, 2, none⟩ (.int .i64 (leftR (stepD d name (cmdOf wh tn bs zz))))) = w6 at *
                    have hq0 := hS13 w2 (Below.refl _ w2)
                    have hM6 := hM2.below hb26
                    have hbw6 := hbw2.trans hb26
                    have hzw6 := hbw6.size
                    have hz46 := Nat.le_trans hz42 hz26
                    have hst1 : d.st ≤ 1000000000 := by have := hok.st1; omega
                    have hm8 : m ≤ 100000000 := by omega
                    have hS15 : ∀ w', BK w4.heap.size w6 w' → (fun w' => (w'.cell? ⟨b, o + t * 5, none⟩ = some (.int .i64 wh) ∧ w'.cell? ⟨b, o + t * 5 + 1, none⟩ = some (.string name) ∧ w'.cell? ⟨b, o + t * 5 + 2, none⟩ = some (.string tn) ∧ w'.cell? ⟨b, o + t * 5 + 3, none⟩ = some (.slice M m mc) ∧ w'.cell? ⟨b, o + t * 5 + 4, none⟩ = some (.int .i64 zz)) ∧ w'.cell? ⟨G, 1, none⟩ = some (.int .i64 (stepD d name (cmdOf wh tn bs zz)).st)) w' := fun w' h => by
                      have hb2' := hb26.trans (h.1.mono hz3)
                      have h' := h.2 _ _ _ hG6 (by decide) (by decide) (by decide)
                      exact ⟨⟨(hb2'.cell (p := ⟨b, o + t * 5, none⟩) hbB).trans hq0.1.1, (hb2'.cell (p := ⟨b, o + t * 5 + 1, none⟩) hbB).trans hq0.1.2.1, (hb2'.cell (p := ⟨b, o + t * 5 + 2, none⟩) hbB).trans hq0.1.2.2.1, (hb2'.cell (p := ⟨b, o + t * 5 + 3, none⟩) hbB).trans hq0.1.2.2.2.1, (hb2'.cell (p := ⟨b, o + t * 5 + 4, none⟩) hbB).trans hq0.1.2.2.2.2⟩, h'.cell 1⟩
                    have hEE : (errP d name (cmdOf wh tn bs zz) != errP d name (cmdOf wh tn bs zz)) = false := bne_self_eq_false _
                    have hSS : ((stepD d name (cmdOf wh tn bs zz)).st != (stepD d name (cmdOf wh tn bs zz)).st) = false := bne_self_eq_false _
                    have hi1 : IntKind.i64.wrap ((t : Int) + 1) = (t : Int) + 1 := IntWalk.i64_in _ (by omega)
                    clear hS13 hq0 hHl hHle
                    refine wp_region_held_drew (S := (fun w' => (w'.cell? ⟨b, o + t * 5, none⟩ = some (.int .i64 wh) ∧ w'.cell? ⟨b, o + t * 5 + 1, none⟩ = some (.string name) ∧ w'.cell? ⟨b, o + t * 5 + 2, none⟩ = some (.string tn) ∧ w'.cell? ⟨b, o + t * 5 + 3, none⟩ = some (.slice M m mc) ∧ w'.cell? ⟨b, o + t * 5 + 4, none⟩ = some (.int .i64 zz)) ∧ w'.cell? ⟨G, 1, none⟩ = some (.int .i64 (stepD d name (cmdOf wh tn bs zz)).st))) (by kernel_rfl) ?_ (fun hHeld => ?_)
                    · exact hS15 _ ((BK.refl _ w6).drew)
                    refine wpAnyH_take (i := 0) (v := ?_) rfl (by kernel_rfl) (by kernel_rfl) (by kernel_rfl) (fun _ _ _ h => h) (Or.inl ⟨by rfl, ?hy⟩) (by assumption) ?_
                    case hy => (intro w hSw; (try dsimp only at hSw); go_simp; all_goals with_reducible rfl)
                    try simp only [Act.put, List.setIfInBounds_toArray, List.set_cons_zero, List.set_cons_succ]
                    refine wpAnyH_take (i := 1) (v := ?_) rfl (by kernel_rfl) (by kernel_rfl) (by kernel_rfl) (fun _ _ _ h => h) (Or.inl ⟨by rfl, ?hy⟩) (by assumption) ?_
                    case hy => (intro w hSw; (try dsimp only at hSw); go_simp; all_goals with_reducible rfl)
                    try simp only [Act.put, List.setIfInBounds_toArray, List.set_cons_zero, List.set_cons_succ]
                    refine wpAnyH_take (i := 2) (v := ?_) rfl (by kernel_rfl) (by kernel_rfl) (by kernel_rfl) (fun _ _ _ h => h) (Or.inl ⟨by rfl, ?hy⟩) (by assumption) ?_
                    case hy => (intro w hSw; (try dsimp only at hSw); go_simp; all_goals with_reducible rfl)
                    try simp only [Act.put, List.setIfInBounds_toArray, List.set_cons_zero, List.set_cons_succ]
                    refine wpAnyH_take (i := 3) (v := ?_) rfl (by kernel_rfl) (by kernel_rfl) (by kernel_rfl) (fun _ _ _ h => h) (Or.inl ⟨by rfl, ?hy⟩) (by assumption) ?_
                    case hy => (intro w hSw; (try dsimp only at hSw); go_simp; all_goals with_reducible rfl)
                    try simp only [Act.put, List.setIfInBounds_toArray, List.set_cons_zero, List.set_cons_succ]
                    refine wpAnyH_take (i := 4) (v := ?_) rfl (by kernel_rfl) (by kernel_rfl) (by kernel_rfl) (fun _ _ _ h => h) (Or.inl ⟨by rfl, ?hy⟩) (by assumption) ?_
                    case hy => (intro w hSw; (try dsimp only at hSw); go_simp; all_goals with_reducible rfl)
                    try simp only [Act.put, List.setIfInBounds_toArray, List.set_cons_zero, List.set_cons_succ]
                    refine wpAnyH_take (i := 6) (v := ?_) rfl (by kernel_rfl) (by kernel_rfl) (by kernel_rfl) (fun _ _ _ h => h) (Or.inl ⟨by rfl, ?hy⟩) (by assumption) ?_
                    case hy => (intro w hSw; (try dsimp only at hSw); go_simp; all_goals with_reducible rfl)
                    try simp only [Act.put, List.setIfInBounds_toArray, List.set_cons_zero, List.set_cons_succ]
                    refine wpAnyH_ready (rs := [5]) (by kernel_rfl) (by simp) (AllReadyH.cons rfl (fun K hK => ?_) AllReadyH.nil)
                    (go_simp; (go_at_call 28; go_must (refine (ldo_any wh hwh (d := d) (mc := mc) (z := zz) (name := name) (tn := tn) (bs := bs) _ (show DKd w4.heap.size w6.drew g r d from hd6) ⟨hz46, hs1, hok.st0, hst1, hok.lf0, hok.lf1⟩ hs2 ((hM6.below (Below.refl _ w6).drew).more hzw6) hm8 (fun x hx => (hflS x hx).1)).mono ?_; rintro e w15 ⟨rfl, hd15, hbk15⟩)); have hbk15 := ((BK.refl w4.heap.size w6).drew).trans hbk15)
                    refine hK.out _ _ ?_ (fun hHeld => ?_)
                    · exact hS15 _ hbk15
                    clear hK K
                    try simp only [Act.put, List.setIfInBounds_toArray, List.set_cons_zero, List.set_cons_succ]
                    refine wpAnyH_take (i := 7) (v := ?_) rfl (by kernel_rfl) (by kernel_rfl) (by kernel_rfl) (fun _ _ _ h => h) (Or.inl ⟨by rfl, ?hy⟩) (by assumption) ?_
                    case hy => (intro w hSw; (try dsimp only at hSw); go_simp; all_goals with_reducible rfl)
                    try simp only [Act.put, List.setIfInBounds_toArray, List.set_cons_zero, List.set_cons_succ]
                    refine wpAnyH_take (i := 8) (v := ?_) rfl (by kernel_rfl) (by kernel_rfl) (by kernel_rfl) (fun _ _ _ h => h) (Or.inl ⟨by rfl, ?hy⟩) (by assumption) ?_
                    case hy => (intro w hSw; (try dsimp only at hSw); go_simp; all_goals with_reducible rfl)
                    try simp only [Act.put, List.setIfInBounds_toArray, List.set_cons_zero, List.set_cons_succ]
                    refine wpAnyH_take (i := 9) (v := ?_) rfl (by kernel_rfl) (by kernel_rfl) (by kernel_rfl) (fun _ _ _ h => h) (Or.inl ⟨by rfl, ?hy⟩) (by assumption) ?_
                    case hy => (intro w hSw; (try dsimp only at hSw); go_simp; all_goals with_reducible rfl)
                    try simp only [Act.put, List.setIfInBounds_toArray, List.set_cons_zero, List.set_cons_succ]
                    refine wpAnyH_take (i := 11) (v := ?_) rfl (by kernel_rfl) (by kernel_rfl) (by kernel_rfl) (fun _ _ _ h => h) (Or.inl ⟨by rfl, ?hy⟩) (by assumption) ?_
                    case hy => (intro w hSw; (try dsimp only at hSw); go_simp; all_goals with_reducible rfl)
                    try simp only [Act.put, List.setIfInBounds_toArray, List.set_cons_zero, List.set_cons_succ]
                    refine wpAnyH_take (i := 12) (v := ?_) rfl (by kernel_rfl) (by kernel_rfl) (by kernel_rfl) (fun _ _ _ h => h) (Or.inl ⟨by rfl, ?hy⟩) (by assumption) ?_
                    case hy => (intro w hSw; (try dsimp only at hSw); go_simp; all_goals with_reducible rfl)
                    try simp only [Act.put, List.setIfInBounds_toArray, List.set_cons_zero, List.set_cons_succ]
                    refine wpAnyH_ready (rs := [10]) (by kernel_rfl) (by simp) (AllReadyH.cons rfl (fun K hK => ?_) AllReadyH.nil)
                    (go_simp; (go_at_call 21; go_must (refine (steps_s _ hd15).mono ?_; rintro e w16 ⟨rfl, rfl⟩)))
                    refine hK.out _ _ ?_ (fun hHeld => ?_)
                    · exact hS15 _ hbk15
                    clear hK K
                    try simp only [Act.put, List.setIfInBounds_toArray, List.set_cons_zero, List.set_cons_succ]
                    refine wpAnyH_take (i := 13) (v := ?_) rfl (by kernel_rfl) (by kernel_rfl) (by kernel_rfl) (fun _ _ _ h => h) (Or.inl ⟨by rfl, ?hy⟩) (by assumption) ?_
                    case hy => (intro w hSw; (try dsimp only at hSw); go_simp; all_goals with_reducible rfl)
                    try simp only [Act.put, List.setIfInBounds_toArray, List.set_cons_zero, List.set_cons_succ]
                    refine wpAnyH_take (i := 14) (v := ?_) rfl (by kernel_rfl) (by kernel_rfl) (by kernel_rfl) (fun _ _ _ h => h) (Or.inl ⟨by rfl, ?hy⟩) (by assumption) ?_
                    case hy => (intro w hSw; (try dsimp only at hSw); go_simp; all_goals with_reducible rfl)
                    try simp only [Act.put, List.setIfInBounds_toArray, List.set_cons_zero, List.set_cons_succ]
                    refine wpAnyH_done (by kernel_rfl) ?_ _
                    go_simp
                    go_wp2_with fail
                    go_roundw
                    case rel =>
                      have hG15 := hbk15.2 _ _ _ hG6 (by decide) (by decide) (by decide)
                      have hok15 : DSOk (stepD d name (cmdOf wh tn bs zz)) (t + 1) := hok.step (wh := wh) (bs := bs) (z := zz) hs1 hs2
                      rw [hok15.left] at hG15
                      exact ⟨t + 1, (stepD d name (cmdOf wh tn bs zz)), A6, n6, c6, by omega, rfl, hok15, hd15, hG15, hRN6.keep hbk15 hz3, hbw6.trans (hbk15.1.mono hz3), Nat.le_trans hz46 hbk15.size⟩
                    case measure => simp [intOf]; omega
                  · go_simp
                    have hH4 := Blk.new (w2.drew) 51 #[.slice none 0 0, .int .i64 0, .int .i64 0]
                    have hbk4 : Below w2.heap.size w2 ((w2.drew).alloc (.cells #[.slice none 0 0, .int .i64 0, .int .i64 0] 51)) := hbk0.alloc hbk0.size _
                    obtain ⟨H, hHe, hHl⟩ : ∃ H, H = w2.heap.size ∧ w2.heap.size ≤ H := ⟨_, rfl, hbk0.size⟩
                    have hH4 : Blk ((w2.drew).alloc (.cells #[.slice none 0 0, .int .i64 0, .int .i64 0] 51)) w2.heap.size 51 #[.slice none 0 0, .int .i64 0, .int .i64 0] := hH4
                    rw [← hHe] at hH4
                    simp only [← hHe]
                    clear hHe
                    refine hK.out _ _ ?_ (fun hHeld => ?_)
                    · exact hS13 _ hbk4
                    clear hK K
                    try simp only [Act.put, List.setIfInBounds_toArray, List.set_cons_zero, List.set_cons_succ]
                    refine wpAnyH_ready (rs := [5]) (by kernel_rfl) (by simp) (AllReadyH.cons rfl (fun K hK => ?_) AllReadyH.nil)
                    go_simp
                    (go_at_call 26; go_must (refine (rdo_any wh hwh (d := d) (c := cc) (mc := mc) (z := zz) (name := name) (tn := tn) (bs := bs) _ ((hRd2.below hbk4).more hbk4.size) (by omega) hflS hs1 hs2 ((hM2.below (hbk4.mono hz2)).more (Nat.le_trans hz2 hbk4.size)) (by omega) hok.st0 (by have := hok.st1; omega) hok.lf0 hok.lf1).mono ?_; rintro e wD5 ⟨⟨A6, n6, c6, rfl, hro5⟩, hbD5⟩))
                    have hRLa5 : RL w.heap.size ((w2.drew).alloc (.cells #[.slice none 0 0, .int .i64 0, .int .i64 0] 51)) AA nn cc d.l := hRL2.below hbk4 hz2
                    have hRN5 := hRLa5.out hbD5 (Nat.le_trans hz2 hbk4.size) hro5
                    have hbk5 := hbk4.trans (hbD5.mono hbk4.size)
                    have hH5 := hH4.below hbD5 hH4.lt
                    refine hK.out _ _ ?_ (fun hHeld => ?_)
                    · exact hS13 _ hbk5
                    clear hK K
                    try simp only [Act.put, List.setIfInBounds_toArray, List.set_cons_zero, List.set_cons_succ]
                    refine wpAnyH_take (i := 6) (v := ?_) rfl (by kernel_rfl) (by kernel_rfl) (by kernel_rfl) (fun _ _ _ h => h) (Or.inl ⟨by rfl, ?hy⟩) (by assumption) ?_
                    case hy => (intro w hSw; (try dsimp only at hSw); go_simp; all_goals with_reducible rfl)
                    try simp only [Act.put, List.setIfInBounds_toArray, List.set_cons_zero, List.set_cons_succ]
                    refine wpAnyH_take (i := 7) (v := ?_) rfl (by kernel_rfl) (by kernel_rfl) (by kernel_rfl) (fun _ _ _ h => h) (Or.inl ⟨by rfl, ?hy⟩) (by assumption) ?_
                    case hy => (intro w hSw; (try dsimp only at hSw); go_simp; all_goals with_reducible rfl)
                    try simp only [Act.put, List.setIfInBounds_toArray, List.set_cons_zero, List.set_cons_succ]
                    refine wpAnyH_take (i := 8) (v := ?_) rfl (by kernel_rfl) (by kernel_rfl) (by kernel_rfl) (fun _ _ _ h => h) (Or.inl ⟨by rfl, ?hy⟩) (by assumption) ?_
                    case hy => (intro w hSw; (try dsimp only at hSw); go_simp; all_goals with_reducible rfl)
                    try simp only [Act.put, List.setIfInBounds_toArray, List.set_cons_zero, List.set_cons_succ]
                    refine wpAnyH_ready (rs := [10]) (by kernel_rfl) (by simp) (AllReadyH.cons rfl (fun K hK => ?_) AllReadyH.nil)
                    have g0 := hH5.cell 0
                    have g1 := hH5.cell 1
                    have g2 := hH5.cell 2
                    have gf := fun i => hH5.frozen i
                    go_simp
                    clear g0 g1 g2 gf
                    have hH6 := ((hH5.set_ 0 (.slice A6 n6 c6)).set_ 1 (.int .i64 (stepD d name (cmdOf wh tn bs zz)).st)).set_ 2 (.int .i64 (leftR (stepD d name (cmdOf wh tn bs zz))))
                    have hbk6 := ((hbk5.setCell (p := ⟨H, 0, none⟩) hHl (.slice A6 n6 c6)).setCell (p := ⟨H, 1, none⟩) hHl (.int .i64 (stepD d name (cmdOf wh tn bs zz)).st)).setCell (p := ⟨H, 2, none⟩) hHl (.int .i64 (leftR (stepD d name (cmdOf wh tn bs zz))))
                    have hRN6 := ((hRN5.far (i := 0) hH5 (by decide) (Nat.le_trans hz2 hHl) (.slice A6 n6 c6)).far (i := 1) (hH5.set_ 0 (.slice A6 n6 c6)) (by decide) (Nat.le_trans hz2 hHl) (.int .i64 (stepD d name (cmdOf wh tn bs zz)).st)).far (i := 2) ((hH5.set_ 0 (.slice A6 n6 c6)).set_ 1 (.int .i64 (stepD d name (cmdOf wh tn bs zz)).st)) (by decide) (Nat.le_trans hz2 hHl) (.int .i64 (leftR (stepD d name (cmdOf wh tn bs zz))))
                    refine hK.out _ _ ?_ (fun hHeld => ?_)
                    · exact hS13 _ hbk6
                    clear hK K
                    try simp only [Act.put, List.setIfInBounds_toArray, List.set_cons_zero, List.set_cons_succ]
                    refine wpAnyH_take (i := 11) (v := ?_) rfl (by kernel_rfl) (by kernel_rfl) (by kernel_rfl) (fun _ _ _ h => h) (Or.inl ⟨by rfl, ?hy⟩) (by assumption) ?_
                    case hy => (intro w hSw; (try dsimp only at hSw); go_simp; all_goals with_reducible rfl)
                    try simp only [Act.put, List.setIfInBounds_toArray, List.set_cons_zero, List.set_cons_succ]
                    refine wpAnyH_done (by kernel_rfl) ?_ _
                    have hH4 := hH6
                    have hbk5 := hbk6
                    have hRN5 := hRN6
                    have hHle := hHl
                    clear hHeld
                    obtain ⟨w5', hw5'⟩ : ∃ x, x = ((((wD5).setCell ⟨H, 0, none⟩ (.slice A6 n6 c6)).setCell ⟨H, 1, none⟩ (.int .i64 (stepD d name (cmdOf wh tn bs zz)).st)).setCell ⟨H, 2, none⟩ (.int .i64 (leftR (stepD d name (cmdOf wh tn bs zz))))) := ⟨_, rfl⟩
                    rw [← hw5'] at hH4 hbk5 hRN5
                    rw [← hw5']
                    clear hw5'
                    have hG5 := hG2.below hbk5 hG2.lt
                    have hd5 := hd2.below hbk5
                    have a0 := hH4.cell 0
                    have a1 := hH4.cell 1
                    have a2 := hH4.cell 2
                    have b0 := hG5.cell 0
                    have b1 := hG5.cell 1
                    have b2 := hG5.cell 2
                    have bf := fun i => hG5.frozen i
                    (go_simp; go_upto_region 15 with (fail))
                    clear a0 a1 a2 b0 b1 b2 bf hH4
                    have hG51 := hG5.set_ 0 (.slice A6 n6 c6)
                    have hG52 := hG51.set_ 1 (.int .i64 (stepD d name (cmdOf wh tn bs zz)).st)
                    have hG6 := hG52.set_ 2 (.int .i64 (leftR (stepD d name (cmdOf wh tn bs zz))))
                    have hd6 : DKd w4.heap.size (((w5'.setCell ⟨G, 0, none⟩ (.slice A6 n6 c6)).setCell ⟨G, 1, none⟩ (.int .i64 (stepD d name (cmdOf wh tn bs zz)).st)).setCell ⟨G, 2, none⟩ (.int .i64 (leftR (stepD d name (cmdOf wh tn bs zz))))) g r d := by
                      obtain ⟨fs, hdk, hp⟩ := hd5
                      exact ⟨fs, ((hdk.setFar (i := 0) hG5 (by decide) (by decide) (by decide) (.slice A6 n6 c6)).setFar (i := 1) hG51 (by decide) (by decide) (by decide) (.int .i64 (stepD d name (cmdOf wh tn bs zz)).st)).setFar (i := 2) hG52 (by decide) (by decide) (by decide) (.int .i64 (leftR (stepD d name (cmdOf wh tn bs zz)))), hp⟩
                    have hRN6 := ((hRN5.far (i := 0) hG5 (by decide) hGl' (.slice A6 n6 c6)).far (i := 1) hG51 (by decide) hGl' (.int .i64 (stepD d name (cmdOf wh tn bs zz)).st)).far (i := 2) hG52 (by decide) hGl' (.int .i64 (leftR (stepD d name (cmdOf wh tn bs zz))))
                    have hb26 : Below w.heap.size w2 (((w5'.setCell ⟨G, 0, none⟩ (.slice A6 n6 c6)).setCell ⟨G, 1, none⟩ (.int .i64 (stepD d name (cmdOf wh tn bs zz)).st)).setCell ⟨G, 2, none⟩ (.int .i64 (leftR (stepD d name (cmdOf wh tn bs zz))))) := (((hbk5.mono hz2).setCell (p := ⟨G, 0, none⟩) hGl' (.slice A6 n6 c6)).setCell (p := ⟨G, 1, none⟩) hGl' (.int .i64 (stepD d name (cmdOf wh tn bs zz)).st)).setCell (p := ⟨G, 2, none⟩) hGl' (.int .i64 (leftR (stepD d name (cmdOf wh tn bs zz))))
                    have hz26 : w2.heap.size ≤ (((w5'.setCell ⟨G, 0, none⟩ (.slice A6 n6 c6)).setCell ⟨G, 1, none⟩ (.int .i64 (stepD d name (cmdOf wh tn bs zz)).st)).setCell ⟨G, 2, none⟩ (.int .i64 (leftR (stepD d name (cmdOf wh tn bs zz))))).heap.size := hb26.size
                    clear hG5 hG51 hG52 hd5 hRN5 hbk5
                    generalize (((w5'.setCell ⟨G, 0, none⟩ (.slice A6 n6 c6)).setCell ⟨G, 1, none⟩ (.int .i64 (stepD d name (cmdOf wh tn bs zz)).st)).setCell ⟨G, 2, none⟩ (.int .i64 (leftR (stepD d name (cmdOf wh tn bs zz))))) = w6 at *
                    have hq0 := hS13 w2 (Below.refl _ w2)
                    have hM6 := hM2.below hb26
                    have hbw6 := hbw2.trans hb26
                    have hzw6 := hbw6.size
                    have hz46 := Nat.le_trans hz42 hz26
                    have hst1 : d.st ≤ 1000000000 := by have := hok.st1; omega
                    have hm8 : m ≤ 100000000 := by omega
                    have hS15 : ∀ w', BK w4.heap.size w6 w' → (fun w' => (w'.cell? ⟨b, o + t * 5, none⟩ = some (.int .i64 wh) ∧ w'.cell? ⟨b, o + t * 5 + 1, none⟩ = some (.string name) ∧ w'.cell? ⟨b, o + t * 5 + 2, none⟩ = some (.string tn) ∧ w'.cell? ⟨b, o + t * 5 + 3, none⟩ = some (.slice M m mc) ∧ w'.cell? ⟨b, o + t * 5 + 4, none⟩ = some (.int .i64 zz)) ∧ w'.cell? ⟨G, 1, none⟩ = some (.int .i64 (stepD d name (cmdOf wh tn bs zz)).st)) w' := fun w' h => by
                      have hb2' := hb26.trans (h.1.mono hz3)
                      have h' := h.2 _ _ _ hG6 (by decide) (by decide) (by decide)
                      exact ⟨⟨(hb2'.cell (p := ⟨b, o + t * 5, none⟩) hbB).trans hq0.1.1, (hb2'.cell (p := ⟨b, o + t * 5 + 1, none⟩) hbB).trans hq0.1.2.1, (hb2'.cell (p := ⟨b, o + t * 5 + 2, none⟩) hbB).trans hq0.1.2.2.1, (hb2'.cell (p := ⟨b, o + t * 5 + 3, none⟩) hbB).trans hq0.1.2.2.2.1, (hb2'.cell (p := ⟨b, o + t * 5 + 4, none⟩) hbB).trans hq0.1.2.2.2.2⟩, h'.cell 1⟩
                    have hEE : (errP d name (cmdOf wh tn bs zz) != errP d name (cmdOf wh tn bs zz)) = false := bne_self_eq_false _
                    have hSS : ((stepD d name (cmdOf wh tn bs zz)).st != (stepD d name (cmdOf wh tn bs zz)).st) = false := bne_self_eq_false _
                    have hi1 : IntKind.i64.wrap ((t : Int) + 1) = (t : Int) + 1 := IntWalk.i64_in _ (by omega)
                    clear hS13 hq0 hHl hHle
                    refine wp_region_held_drew (S := (fun w' => (w'.cell? ⟨b, o + t * 5, none⟩ = some (.int .i64 wh) ∧ w'.cell? ⟨b, o + t * 5 + 1, none⟩ = some (.string name) ∧ w'.cell? ⟨b, o + t * 5 + 2, none⟩ = some (.string tn) ∧ w'.cell? ⟨b, o + t * 5 + 3, none⟩ = some (.slice M m mc) ∧ w'.cell? ⟨b, o + t * 5 + 4, none⟩ = some (.int .i64 zz)) ∧ w'.cell? ⟨G, 1, none⟩ = some (.int .i64 (stepD d name (cmdOf wh tn bs zz)).st))) (by kernel_rfl) ?_ (fun hHeld => ?_)
                    · exact hS15 _ ((BK.refl _ w6).drew)
                    refine wpAnyH_take (i := 0) (v := ?_) rfl (by kernel_rfl) (by kernel_rfl) (by kernel_rfl) (fun _ _ _ h => h) (Or.inl ⟨by rfl, ?hy⟩) (by assumption) ?_
                    case hy => (intro w hSw; (try dsimp only at hSw); go_simp; all_goals with_reducible rfl)
                    try simp only [Act.put, List.setIfInBounds_toArray, List.set_cons_zero, List.set_cons_succ]
                    refine wpAnyH_take (i := 1) (v := ?_) rfl (by kernel_rfl) (by kernel_rfl) (by kernel_rfl) (fun _ _ _ h => h) (Or.inl ⟨by rfl, ?hy⟩) (by assumption) ?_
                    case hy => (intro w hSw; (try dsimp only at hSw); go_simp; all_goals with_reducible rfl)
                    try simp only [Act.put, List.setIfInBounds_toArray, List.set_cons_zero, List.set_cons_succ]
                    refine wpAnyH_take (i := 2) (v := ?_) rfl (by kernel_rfl) (by kernel_rfl) (by kernel_rfl) (fun _ _ _ h => h) (Or.inl ⟨by rfl, ?hy⟩) (by assumption) ?_
                    case hy => (intro w hSw; (try dsimp only at hSw); go_simp; all_goals with_reducible rfl)
                    try simp only [Act.put, List.setIfInBounds_toArray, List.set_cons_zero, List.set_cons_succ]
                    refine wpAnyH_take (i := 3) (v := ?_) rfl (by kernel_rfl) (by kernel_rfl) (by kernel_rfl) (fun _ _ _ h => h) (Or.inl ⟨by rfl, ?hy⟩) (by assumption) ?_
                    case hy => (intro w hSw; (try dsimp only at hSw); go_simp; all_goals with_reducible rfl)
                    try simp only [Act.put, List.setIfInBounds_toArray, List.set_cons_zero, List.set_cons_succ]
                    refine wpAnyH_take (i := 4) (v := ?_) rfl (by kernel_rfl) (by kernel_rfl) (by kernel_rfl) (fun _ _ _ h => h) (Or.inl ⟨by rfl, ?hy⟩) (by assumption) ?_
                    case hy => (intro w hSw; (try dsimp only at hSw); go_simp; all_goals with_reducible rfl)
                    try simp only [Act.put, List.setIfInBounds_toArray, List.set_cons_zero, List.set_cons_succ]
                    refine wpAnyH_take (i := 6) (v := ?_) rfl (by kernel_rfl) (by kernel_rfl) (by kernel_rfl) (fun _ _ _ h => h) (Or.inl ⟨by rfl, ?hy⟩) (by assumption) ?_
                    case hy => (intro w hSw; (try dsimp only at hSw); go_simp; all_goals with_reducible rfl)
                    try simp only [Act.put, List.setIfInBounds_toArray, List.set_cons_zero, List.set_cons_succ]
                    refine wpAnyH_ready (rs := [5]) (by kernel_rfl) (by simp) (AllReadyH.cons rfl (fun K hK => ?_) AllReadyH.nil)
                    (go_simp; (go_at_call 28; go_must (refine (ldo_any wh hwh (d := d) (mc := mc) (z := zz) (name := name) (tn := tn) (bs := bs) _ (show DKd w4.heap.size w6.drew g r d from hd6) ⟨hz46, hs1, hok.st0, hst1, hok.lf0, hok.lf1⟩ hs2 ((hM6.below (Below.refl _ w6).drew).more hzw6) hm8 (fun x hx => (hflS x hx).1)).mono ?_; rintro e w15 ⟨rfl, hd15, hbk15⟩)); have hbk15 := ((BK.refl w4.heap.size w6).drew).trans hbk15)
                    refine hK.out _ _ ?_ (fun hHeld => ?_)
                    · exact hS15 _ hbk15
                    clear hK K
                    try simp only [Act.put, List.setIfInBounds_toArray, List.set_cons_zero, List.set_cons_succ]
                    refine wpAnyH_take (i := 7) (v := ?_) rfl (by kernel_rfl) (by kernel_rfl) (by kernel_rfl) (fun _ _ _ h => h) (Or.inl ⟨by rfl, ?hy⟩) (by assumption) ?_
                    case hy => (intro w hSw; (try dsimp only at hSw); go_simp; all_goals with_reducible rfl)
                    try simp only [Act.put, List.setIfInBounds_toArray, List.set_cons_zero, List.set_cons_succ]
                    refine wpAnyH_take (i := 8) (v := ?_) rfl (by kernel_rfl) (by kernel_rfl) (by kernel_rfl) (fun _ _ _ h => h) (Or.inl ⟨by rfl, ?hy⟩) (by assumption) ?_
                    case hy => (intro w hSw; (try dsimp only at hSw); go_simp; all_goals with_reducible rfl)
                    try simp only [Act.put, List.setIfInBounds_toArray, List.set_cons_zero, List.set_cons_succ]
                    refine wpAnyH_take (i := 9) (v := ?_) rfl (by kernel_rfl) (by kernel_rfl) (by kernel_rfl) (fun _ _ _ h => h) (Or.inl ⟨by rfl, ?hy⟩) (by assumption) ?_
                    case hy => (intro w hSw; (try dsimp only at hSw); go_simp; all_goals with_reducible rfl)
                    try simp only [Act.put, List.setIfInBounds_toArray, List.set_cons_zero, List.set_cons_succ]
                    refine wpAnyH_take (i := 11) (v := ?_) rfl (by kernel_rfl) (by kernel_rfl) (by kernel_rfl) (fun _ _ _ h => h) (Or.inl ⟨by rfl, ?hy⟩) (by assumption) ?_
                    case hy => (intro w hSw; (try dsimp only at hSw); go_simp; all_goals with_reducible rfl)
                    try simp only [Act.put, List.setIfInBounds_toArray, List.set_cons_zero, List.set_cons_succ]
                    refine wpAnyH_take (i := 12) (v := ?_) rfl (by kernel_rfl) (by kernel_rfl) (by kernel_rfl) (fun _ _ _ h => h) (Or.inl ⟨by rfl, ?hy⟩) (by assumption) ?_
                    case hy => (intro w hSw; (try dsimp only at hSw); go_simp; all_goals with_reducible rfl)
                    try simp only [Act.put, List.setIfInBounds_toArray, List.set_cons_zero, List.set_cons_succ]
                    refine wpAnyH_ready (rs := [10]) (by kernel_rfl) (by simp) (AllReadyH.cons rfl (fun K hK => ?_) AllReadyH.nil)
                    (go_simp; (go_at_call 21; go_must (refine (steps_s _ hd15).mono ?_; rintro e w16 ⟨rfl, rfl⟩)))
                    refine hK.out _ _ ?_ (fun hHeld => ?_)
                    · exact hS15 _ hbk15
                    clear hK K
                    try simp only [Act.put, List.setIfInBounds_toArray, List.set_cons_zero, List.set_cons_succ]
                    refine wpAnyH_take (i := 13) (v := ?_) rfl (by kernel_rfl) (by kernel_rfl) (by kernel_rfl) (fun _ _ _ h => h) (Or.inl ⟨by rfl, ?hy⟩) (by assumption) ?_
                    case hy => (intro w hSw; (try dsimp only at hSw); go_simp; all_goals with_reducible rfl)
                    try simp only [Act.put, List.setIfInBounds_toArray, List.set_cons_zero, List.set_cons_succ]
                    refine wpAnyH_take (i := 14) (v := ?_) rfl (by kernel_rfl) (by kernel_rfl) (by kernel_rfl) (fun _ _ _ h => h) (Or.inl ⟨by rfl, ?hy⟩) (by assumption) ?_
                    case hy => (intro w hSw; (try dsimp only at hSw); go_simp; all_goals with_reducible rfl)
                    try simp only [Act.put, List.setIfInBounds_toArray, List.set_cons_zero, List.set_cons_succ]
                    refine wpAnyH_done (by kernel_rfl) ?_ _
                    go_simp
                    go_wp2_with fail
                    go_roundw
                    case rel =>
                      have hG15 := hbk15.2 _ _ _ hG6 (by decide) (by decide) (by decide)
                      have hok15 : DSOk (stepD d name (cmdOf wh tn bs zz)) (t + 1) := hok.step (wh := wh) (bs := bs) (z := zz) hs1 hs2
                      rw [hok15.left] at hG15
                      exact ⟨t + 1, (stepD d name (cmdOf wh tn bs zz)), A6, n6, c6, by omega, rfl, hok15, hd15, hG15, hRN6.keep hbk15 hz3, hbw6.trans (hbk15.1.mono hz3), Nat.le_trans hz46 hbk15.size⟩
                    case measure => simp [intOf]; omega
          · have hf1 : decide (t < sn) = false := decide_eq_false ht
            have hf2 : decide ((t : Int) < (sn : Int)) = false := decide_eq_false (by omega)
            have hFit := hok.fit.fit (by omega)
            have hzw := hbw.size
            clear hS HOK HINV hb10 hS10
            go_wp2_with fail
            refine wp_region_held_drew (S := (fun w' => w'.cell? ⟨G, 0, none⟩ = some (.slice AA nn cc))) (by kernel_rfl) ?_ (fun hHeld => ?_)
            · exact hG.cell 0
            refine wpAnyH_take (i := 0) (v := ?_) rfl (by kernel_rfl) (by kernel_rfl) (by kernel_rfl) (fun _ _ _ h => h) (Or.inl ⟨by rfl, ?hy⟩) (by assumption) ?_
            case hy => (intro w hSw; (try dsimp only at hSw); go_simp; all_goals with_reducible rfl)
            try simp only [Act.put, List.setIfInBounds_toArray, List.set_cons_zero, List.set_cons_succ]
            refine wpAnyH_ready (rs := [1]) (by kernel_rfl) (by simp) (AllReadyH.cons rfl (fun K hK => ?_) AllReadyH.nil)
            (go_simp; (go_at_call 16; refine (num_any _ _).mono ?_; rintro e w60 ⟨rfl, rfl⟩))
            refine hK.out _ _ ?_ (fun hHeld => ?_)
            · exact hG.cell 0
            clear hK K
            try simp only [Act.put, List.setIfInBounds_toArray, List.set_cons_zero, List.set_cons_succ]
            refine wpAnyH_take (i := 2) (v := ?_) rfl (by kernel_rfl) (by kernel_rfl) (by kernel_rfl) (fun _ _ _ h => h) (Or.inl ⟨by rfl, ?hy⟩) (by assumption) ?_
            case hy => (intro w hSw; (try dsimp only at hSw); go_simp; all_goals with_reducible rfl)
            try simp only [Act.put, List.setIfInBounds_toArray, List.set_cons_zero, List.set_cons_succ]
            refine wpAnyH_take (i := 3) (v := ?_) rfl (by kernel_rfl) (by kernel_rfl) (by kernel_rfl) (fun _ _ _ h => h) (Or.inl ⟨by rfl, ?hy⟩) (by assumption) ?_
            case hy => (intro w hSw; (try dsimp only at hSw); go_simp; all_goals with_reducible rfl)
            try simp only [Act.put, List.setIfInBounds_toArray, List.set_cons_zero, List.set_cons_succ]
            refine wpAnyH_take (i := 4) (v := ?_) rfl (by kernel_rfl) (by kernel_rfl) (by kernel_rfl) (fun _ _ _ h => h) (Or.inl ⟨by rfl, ?hy⟩) (by assumption) ?_
            case hy => (intro w hSw; (try dsimp only at hSw); go_simp; all_goals with_reducible rfl)
            try simp only [Act.put, List.setIfInBounds_toArray, List.set_cons_zero, List.set_cons_succ]
            refine wpAnyH_take (i := 6) (v := ?_) rfl (by kernel_rfl) (by kernel_rfl) (by kernel_rfl) (fun _ _ _ h => h) (Or.inl ⟨by rfl, ?hy⟩) (by assumption) ?_
            case hy => (intro w hSw; (try dsimp only at hSw); go_simp; all_goals with_reducible rfl)
            try simp only [Act.put, List.setIfInBounds_toArray, List.set_cons_zero, List.set_cons_succ]
            refine wpAnyH_take (i := 7) (v := ?_) rfl (by kernel_rfl) (by kernel_rfl) (by kernel_rfl) (fun _ _ _ h => h) (Or.inl ⟨by rfl, ?hy⟩) (by assumption) ?_
            case hy => (intro w hSw; (try dsimp only at hSw); go_simp; all_goals with_reducible rfl)
            try simp only [Act.put, List.setIfInBounds_toArray, List.set_cons_zero, List.set_cons_succ]
            refine wpAnyH_ready (rs := [5]) (by kernel_rfl) (by simp) (AllReadyH.cons rfl (fun K hK => ?_) AllReadyH.nil)
            (go_simp; (go_at_call 20; go_must (refine (files_s wr.drew (show DKd w4.heap.size wr.drew g r d from hd) hFit).mono ?_; rintro e w15 ⟨v15, rfl, hown15, hb15⟩)); have hb15 : Below wr.heap.size wr w15 := (Below.refl _ wr).drew.trans (show Below wr.heap.size wr.drew w15 from hb15); obtain ⟨A15, n15, c15, rfl⟩ := own_sliceN hown15; have HN15 : Hid (n15 = d.l.length) := own_len3 hown15; rw [← HN15.out] at hown15; have hG15 := hG.below hb15 hG.lt; have hRL15 := hRL.below hb15 hzw; have hbw15 := hbw.trans (hb15.mono hzw))
            refine hK.out _ _ ?_ (fun hHeld => ?_)
            · exact hG15.cell 0
            clear hK K
            try simp only [Act.put, List.setIfInBounds_toArray, List.set_cons_zero, List.set_cons_succ]
            refine wpAnyH_ready (rs := [8]) (by kernel_rfl) (by simp) (AllReadyH.cons rfl (fun K hK => ?_) AllReadyH.nil)
            (go_simp; (go_at_call 17; go_must (have hrA := Reads.of_own3 hown15; have hrB := hRL15.reads hbw15.size; have hnn : nn = n15 := (by have h1 := hRL15.len; have h2 := HN15.out; omega); subst hnn; rw [dvs_afs] at hrA hrB; refine (rsame_yes (c := c15) (c' := cc) w15 hrA hrB (by have h1 := hFit.num; have h2 := HN15.out; omega)).mono ?_; rintro e w16 ⟨rfl, hb16⟩)); have hG16 := hG15.below hb16 hG15.lt; have hbw16 := hbw15.trans (hb16.mono hbw15.size))
            refine hK.out _ _ ?_ (fun hHeld => ?_)
            · exact hG16.cell 0
            clear hK K
            try simp only [Act.put, List.setIfInBounds_toArray, List.set_cons_zero, List.set_cons_succ]
            refine wpAnyH_take (i := 9) (v := ?_) rfl (by kernel_rfl) (by kernel_rfl) (by kernel_rfl) (fun _ _ _ h => h) (Or.inl ⟨by rfl, ?hy⟩) (by assumption) ?_
            case hy => (intro w hSw; (try dsimp only at hSw); go_simp; all_goals with_reducible rfl)
            try simp only [Act.put, List.setIfInBounds_toArray, List.set_cons_zero, List.set_cons_succ]
            refine wpAnyH_take (i := 10) (v := ?_) rfl (by kernel_rfl) (by kernel_rfl) (by kernel_rfl) (fun _ _ _ h => h) (Or.inl ⟨by rfl, ?hy⟩) (by assumption) ?_
            case hy => (intro w hSw; (try dsimp only at hSw); go_simp; all_goals with_reducible rfl)
            try simp only [Act.put, List.setIfInBounds_toArray, List.set_cons_zero, List.set_cons_succ]
            refine wpAnyH_ready (rs := [11]) (by kernel_rfl) (by simp) (AllReadyH.cons rfl (fun K hK => ?_) AllReadyH.nil)
            (go_simp; (go_at_call 12; go_must (refine (works_any _).mono ?_; rintro e w17 ⟨rfl, hb17⟩)); have hG17 := hG16.below hb17 hG16.lt; have hbw17 := hbw16.trans (hb17.mono hbw16.size))
            refine hK.out _ _ ?_ (fun hHeld => ?_)
            · exact hG17.cell 0
            clear hK K
            try simp only [Act.put, List.setIfInBounds_toArray, List.set_cons_zero, List.set_cons_succ]
            refine wpAnyH_take (i := 12) (v := ?_) rfl (by kernel_rfl) (by kernel_rfl) (by kernel_rfl) (fun _ _ _ h => h) (Or.inl ⟨by rfl, ?hy⟩) (by assumption) ?_
            case hy => (intro w hSw; (try dsimp only at hSw); go_simp; all_goals with_reducible rfl)
            try simp only [Act.put, List.setIfInBounds_toArray, List.set_cons_zero, List.set_cons_succ]
            refine wpAnyH_take (i := 13) (v := ?_) rfl (by kernel_rfl) (by kernel_rfl) (by kernel_rfl) (fun _ _ _ h => h) (Or.inl ⟨by rfl, ?hy⟩) (by assumption) ?_
            case hy => (intro w hSw; (try dsimp only at hSw); go_simp; all_goals with_reducible rfl)
            try simp only [Act.put, List.setIfInBounds_toArray, List.set_cons_zero, List.set_cons_succ]
            refine wpAnyH_done (by kernel_rfl) ?_ _
            (go_simp; go_wp2_with fail; go_ret; first | exact ⟨rfl, hbw17⟩ | exact ⟨(by simp), hbw17⟩ | exact ⟨ret_bool (by simp), hbw17⟩)
    · obtain ⟨Z, hZ⟩ : ∃ Z, Z = chkF l := ⟨_, rfl⟩
      rw [← hZ] at hck HCK0
      have HCK := hide HCK0
      have hZ0 : (Z != 0) = true := by simpa using hck
      clear HCK0 hck hZ
      go_wp2_with (first
        | (go_at_call 13; go_must (refine HF.out.mono ?_; rintro e w1 ⟨rfl, hb1⟩))
        | (go_at_call 15; go_must (refine (HCK.out w1 ((hr.below hb1).more hb1.size)).mono ?_; rintro e w3 ⟨rfl, hb3⟩))
        | (go_at_call 12; go_must (refine (works_any _).mono ?_; rintro e w4 ⟨rfl, hb4⟩))
        | fail)
      go_ret
      exact ⟨rfl, hb1.trans ((hb3.trans (hb4.mono hb3.size)).mono hb1.size)⟩
end Go.Proofs.Ytaaaljpnhfmbpaa
