/- The walk of the law DiskLasts (package taborlaw02). Conditions: those of the theorem. -/
import Derived.Test.YtaaaljpnhfmbpaaDkLa
import Derived.Test.YtaaaljpnhfmbpaaDkLb
import Derived.Test.YtaaaljpnhfmbpaaDkMc
import Derived.Test.YtaaaljpnhfmbpaaDkFit
import Derived.Test.YtaaaljpnhfmbpaaDkN
import Derived.Deep.RegionHeld3
import Derived.Deep.DeepCutAuto
import Derived.Deep.RegionWith
import Derived.Lib.MinMax
namespace Go.Proofs.Ytaaaljpnhfmbpaa
open Go.RowKit Go.Shelf
set_option linter.unusedVariables false
set_option linter.unusedSimpArgs false

theorem int_okD : ElemOk Try.prog 3 1 8 (.int .i64 0) := elemOk (by kernel_rfl) rfl (by decide)
theorem ivs_append (l m : List Int) : ivs (l ++ m) = ivs l ++ ivs m := by simp [ivs]
set_option maxHeartbeats 16000000 in
set_option maxRecDepth 100000 in
theorem diskLasts_any (A : Option Addr) (n c : Nat) (l : List AF) (name : ByteArray) (M : Option Addr) (m mc : Nat) (bs : List UInt8) (K : Option Addr) (mk ck : Nat) (ks : List Int) (w : World) (hr : Reads w w.heap.size 3 A n (afs l)) (hn : n ≤ maxLen) (hs : ∀ x ∈ l, x.name.size ≤ 140737488351232 ∧ x.b.size ≤ 140737488351232) (hsn : name.size ≤ 140737488351232) (hM : Reads w w.heap.size 1 M m (bvs bs)) (hmc : m ≤ mc) (hm : mc ≤ maxLen) (hKe : Reads w w.heap.size 1 K mk (ivs ks)) (hmk : mk ≤ maxLen) :
    Calls Try.prog 5 #[.slice A n c, .string name, .slice M m mc, .slice K mk ck] w fun e w' => e = .returned (.bool true) ∧ Below w.heap.size w w' := by
  have HL := hide hr.alen
  have HML := hide hM.blen
  have HF := hide (few_any (c := c) w hr hn hs)
  have HMK := hide hmk
  have HMM := hide hm
  clear hmk hm
  go_enter Try.func5, Try.ntmps5
  cases hd3 : decide (wsum l ≤ 3000) with
  | false =>
    rw [hd3] at HF
    go_wp2_with (first
      | (go_at_call 13; go_must (refine HF.out.mono ?_; rintro e w1 ⟨rfl, hb1⟩))
      | (go_at_call 12; go_must (refine (works_any _).mono ?_; rintro e w2 ⟨rfl, hb2⟩))
      | fail)
    go_ret
    exact ⟨rfl, hb1.trans (hb2.mono hb1.size)⟩
  | true =>
    rw [hd3] at HF
    have hw1 := of_decide_eq_true hd3
    have hn3 : n ≤ 3000 := by have := wsum_len l; rw [HL.out] at this; omega
    have HWS := hide (fun (x : AF) (hx : x ∈ l) => (show x.b.size ≤ 3000 from (by have := wsum_mem hx; omega)))
    clear hd3 hw1
    by_cases h2 : 200 < name.size
    · have d2 : decide (200 < name.size) = true := decide_eq_true h2
      have d2' : decide ((200 : Int) < (name.size : Int)) = true := decide_eq_true (by omega)
      clear h2
      go_wp2_with (first
        | (go_at_call 13; go_must (refine HF.out.mono ?_; rintro e w1 ⟨rfl, hb1⟩))
        | (go_at_call 12; go_must (refine (works_any _).mono ?_; rintro e w2 ⟨rfl, hb2⟩))
        | fail)
      go_ret
      exact ⟨rfl, hb1.trans (hb2.mono hb1.size)⟩
    · have d2 : decide (200 < name.size) = false := decide_eq_false h2
      have d2' : decide ((200 : Int) < (name.size : Int)) = false := decide_eq_false (by omega)
      clear h2
      by_cases h1 : 1000 < m
      · have d1 : decide (1000 < m) = true := decide_eq_true h1
        have d1' : decide ((1000 : Int) < (m : Int)) = true := decide_eq_true (by omega)
        clear h1
        go_wp2_with (first
          | (go_at_call 13; go_must (refine HF.out.mono ?_; rintro e w1 ⟨rfl, hb1⟩))
          | (go_at_call 12; go_must (refine (works_any _).mono ?_; rintro e w2 ⟨rfl, hb2⟩))
          | fail)
        go_ret
        exact ⟨rfl, hb1.trans (hb2.mono hb1.size)⟩
      · have d1 : decide (1000 < m) = false := decide_eq_false h1
        have d1' : decide ((1000 : Int) < (m : Int)) = false := decide_eq_false (by omega)
        have hm1 : m ≤ 1000 := by omega
        clear h1
        go_upto_region 3 with (first
          | (go_at_call 13; go_must (refine HF.out.mono ?_; rintro e w1 ⟨rfl, hb1⟩))
          | fail)
        clear d2 d2' d1 d1' HF
        have hr1 := hr.below hb1
        have hM1 := hM.below hb1
        have hKe1 := hKe.below hb1
        have hz1 := hb1.size
        clear hr hM hKe
        have HFr := hide (from_any (c := c) w1 (hr1.more hz1) (by omega) hs)
        by_cases hck : chkF l = 0
        · have HC := hide hck
          clear hck
          obtain ⟨_, _, hrise, hoks⟩ := chk_ok l _ _ HC.out
          have HO := hide hoks
          have HRi := hide hrise
          clear hrise hoks
          go_upto_region 6 with (first
            | (go_at_call 14
               go_must (
               refine HFr.out.mono ?_
               rintro e w5 ⟨hor, hb5⟩
               have hor2 : ∃ g r fs, e = .returned (.tuple #[.pointer (some ⟨g, 0, none⟩), .int .i64 0]) ∧ DK w1.heap.size w5 g r fs 0 false 0 ∧ fs.map fdat = l.map adat := by
                 rcases hor with ⟨h0, _⟩ | ⟨_, h⟩
                 · exact absurd HC.out h0
                 · exact h
               obtain ⟨g, r, fs, rfl, hdk, hfs⟩ := hor2))
            | (go_at_call 16; refine (num_any _ _).mono ?_; rintro e w60 ⟨rfl, rfl⟩)
            | fail)
          have hd5 : DKd w1.heap.size w5 g r ⟨l.map adat, 0, false, 0⟩ := ⟨fs, hdk, by rw [hfs], HRi.out⟩
          have hK0 := fit_of HO.out hs (K := 3000) (by rw [HL.out]; exact hn3)
          have hM5 := hM1.below (hb5.mono hz1)
          have hKe5 := hKe1.below (hb5.mono hz1)
          have hbw5 := hb1.trans (hb5.mono hz1)
          have hz5 := hb5.size
          clear hor hdk hfs HFr hr1 hM1 hKe1 hb1 hb5 HC HO
          go_upto_region 7 with (first
            | (go_at_call 22
               go_must (
               refine (sync_op (name := name) w5 hd5 ⟨hz5, hsn, Int.le_refl 0, by show (0 : Int) ≤ _; decide, Int.le_refl 0, by show (0 : Int) ≤ _; decide⟩).mono ?_
               rintro e w6 ⟨rfl, hd6, hbk6⟩))
            | fail)
          obtain ⟨D1, hD1⟩ : ∃ D, D = stepD ⟨l.map adat, 0, false, 0⟩ name .sync := ⟨_, rfl⟩
          have hfr1 := step_free (d := ⟨l.map adat, 0, false, 0⟩) rfl rfl name .sync
          have hK1 : FitK D1.l 3001 := by rw [hD1]; exact FitK.step (d := ⟨l.map adat, 0, false, 0⟩) hK0 hsn (fun t e => by cases e)
          rw [← hD1] at hd6 hfr1
          have HD1 := hide hD1
          have hM6 := hM5.below (hbk6.1.mono hz1)
          have hKe6 := hKe5.below (hbk6.1.mono hz1)
          have hbw6 := hbw5.trans (hbk6.1.mono hz1)
          have hz6 := Nat.le_trans hz5 hbk6.size
          have hfl1 : ∀ x ∈ D1.l, x.2.1.length ≤ 1048576 := fun x hx => (hK1.all x hx).2.1
          obtain ⟨h11, h12, h13, h14⟩ := hfr1
          have h13' : 0 ≤ D1.st := h13
          have h14' : D1.st ≤ 1 := h14
          clear hD1 hd5 hbk6 hM5 hKe5 hbw5 hz5 h13 h14
          have hRd := read_op (name := name) w6 hd6 hsn hfl1
          obtain ⟨F1, hF1⟩ : ∃ x, x = readE D1.l name := ⟨_, rfl⟩
          obtain ⟨W1, hW1⟩ : ∃ x, x = readB D1.l name := ⟨_, rfl⟩
          simp only [← hF1, ← hW1] at hRd
          have HRd := hide hRd
          have HF1 := hide hF1
          have HW1 := hide hW1
          clear hRd hF1 hW1
          go_upto_region 8 with (first
            | (go_at_call 18
               go_must (
               refine HRd.out.mono ?_
               rintro e w7 ⟨v7, rfl, hown7, hb7⟩
               obtain ⟨A7, c7, rfl, hc7, hc7m⟩ := zown_slice (zown_of hown7)))
            | fail)
          have hz67 := hb7.size
          have hM7 := hM6.below (hb7.mono (hbw6.size))
          have hKe7 := hKe6.below (hb7.mono (hbw6.size))
          have hbw7 := hbw6.trans (hb7.mono (hbw6.size))
          have hz7 := Nat.le_trans hz6 hz67
          have hAp := append_keep (bs := bs) (name := name) (m := m) (cm := mc) (B := w1.heap.size) (w0 := w6) w7 hd6 hb7 (zown_of hown7) ⟨hz7, hsn, h13', by omega, by rw [h12]; exact Int.le_refl _, by rw [h12]; decide⟩ (hM7.more hbw7.size) (by omega) hfl1
          obtain ⟨D2, hD2⟩ : ∃ D, D = stepD D1 name (.app bs) := ⟨_, rfl⟩
          obtain ⟨E2, hE2⟩ : ∃ D, D = errP D1 name (.app bs) := ⟨_, rfl⟩
          have hK2 : FitK D2.l 3002 := by rw [hD2]; exact FitK.step hK1 hsn (fun t e => by cases e)
          simp only [← hD2, ← hE2] at hAp
          have HAp := hide hAp
          have HD2 := hide hD2
          have HE2 := hide hE2
          clear hAp hD2 hE2 HRd hM6 hKe6 hbw6 hd6 hb7 hown7
          go_upto_region 9 with (first
            | (go_at_call 23
               go_must (
               refine HAp.out.mono ?_
               rintro e w8 ⟨rfl, hd8, hbk8, hwas8⟩))
            | fail)
          have hKe8 := hKe7.below (hbk8.1.mono hz1)
          have hbw8 := hbw7.trans (hbk8.1.mono hz1)
          have hz8 := Nat.le_trans hz7 hbk8.size
          have hsy8 := hd8.synced
          obtain ⟨C, hC⟩ : ∃ x, x = crashL ks D2.l := ⟨_, rfl⟩
          have hKC : FitK C 3002 := by rw [hC]; exact FitK.crash hK2 hsy8 ks
          have hCr := crash_sW (mc := ck) w8 hd8 (hK2.fit (by decide)) (hKe8.more hbw8.size) HMK.out
          simp only [← hC] at hCr
          have HC := hide hC
          have HCr := hide hCr
          clear HAp hCr hC hKe7 hbw7 hbk8 hM7
          go_upto_region 10 with (first
            | (go_at_call 24
               go_must (
               refine HCr.out.mono ?_
               rintro e w9 ⟨g9, r9, rfl, hd9, hb9⟩))
            | fail)
          have hd89 := hd8.below hb9
          have hbw9 := hbw8.trans (hb9.mono hbw8.size)
          have hz9 := Nat.le_trans hz8 hb9.size
          have hRd := read_op (name := name) w9 hd9 hsn (fun x hx => (hKC.all x hx).2.1)
          obtain ⟨F2, hF2⟩ : ∃ x, x = readE C name := ⟨_, rfl⟩
          obtain ⟨W2, hW2⟩ : ∃ x, x = readB C name := ⟨_, rfl⟩
          simp only [← hF2, ← hW2] at hRd
          have HRd := hide hRd
          have HF2 := hide hF2
          have HW2 := hide hW2
          have hwas9 := fun h => zown_below (hwas8 h) hb9
          clear hRd hF2 hW2 HCr hd8 hwas8 hbw8 hKe8
          go_upto_region 11 with (first
            | (go_at_call 18
               go_must (
               refine HRd.out.mono ?_
               rintro e w10 ⟨v10, rfl, hown10, hb10⟩
               obtain ⟨A10, c10, rfl, hc10, hc10m⟩ := zown_slice (zown_of hown10)))
            | fail)
          have hd10 := hd89.below hb10
          have hdc10 := hd9.below hb10
          have hwas10 := fun h => Reads.of_zown (zown_below (hwas9 h) hb10)
          have hleft10 := Reads.of_zown (zown_of hown10)
          have hbw10 := hbw9.trans (hb10.mono hbw9.size)
          have hz10 := Nat.le_trans hz9 hb10.size
          have hz89 := Nat.le_trans hb9.size hb10.size
          have hLst := lasts (L := l.map adat) HRi.out name bs ks (fun x hx => by
            obtain ⟨y, hy, rfl⟩ := List.mem_map.1 hx
            have h1 := HWS.out y hy
            have h2 := HML.out
            show y.b.data.toList.length + bs.length ≤ 1048576
            rw [Array.length_toList]
            have h3 : y.b.data.size = y.b.size := rfl
            omega) HD1.out HD2.out
          rw [← HF1.out, ← HC.out, ← HE2.out, ← HF2.out, ← HW1.out, ← HW2.out] at hLst
          have HLst := hide hLst
          clear HRd hwas9 hbw9 hd89 hd9 hown10 hb10 hLst hb9
          have hWb : W1.length ≤ 1048576 := by rw [HW1.out]; exact readB_le hfl1 name
          go_cut [111] (fun s111 wx => s111 = .bool false ∧ Below w10.heap.size w10 wx)
          case first =>
            rename_i h1 k2 h2 J0 K0 h3 h4
            have H1 := hide h1
            have H2 := hide h2
            have H4 := hide h4
            clear h1 h2 h4
            by_cases hf : F1 = 0
            · obtain ⟨e1, e2, e3, e4, e5⟩ := HLst.out hf
              have hwasR := hwas10 e1
              have f1 : decide (W2.length < W1.length) = false := decide_eq_false (by omega)
              have f1' : decide ((W2.length : Int) < (W1.length : Int)) = false := decide_eq_false (by omega)
              have hwr : IntKind.i64.wrap ((W1.length : Int) + (m : Int)) = (W1.length : Int) + (m : Int) := IntWalk.i64_in _ (by omega)
              have hml := HML.out
              have f2 : decide ((W1.length : Int) + (m : Int) < (W2.length : Int)) = false := decide_eq_false (by omega)
              have hcA := run_bytes_str (P := Try.prog) (w := w10.drew) 35 9 5 Try.underlying35 Try.underlying5 Try.underlying9 (B := w10.heap.size) (hleft10.front (m := W1.length) e3) c10
              have hcB := run_bytes_str (P := Try.prog) (w := w10.drew) 35 9 5 Try.underlying35 Try.underlying5 Try.underlying9 (B := w10.heap.size) hwasR c7
              rw [e5] at hcA
              have hne : (W1.toArray.toList != W1.toArray.toList) = false := bne_self_eq_false _
              have hle1 : (W1.length : Int) ≤ (c10 : Int) := by omega
              have hle2 : (0 : Int) ≤ (W1.length : Int) := by omega
              have hle3 : W1.length ≤ c10 := by omega
              have z0 : ((0 : Int) == 0) = true := rfl
              have z1 : ((0 : Int) != 0) = false := rfl
              subst hf e1 e2
              clear hml e3 e4 e5 HLst hwas10 hwasR hleft10
              refine wp_region_held_drew (S := (fun _ => True)) (by kernel_rfl) ?_ (fun hHeld => ?_)
              · exact trivial
              refine wpAnyH_take (i := 0) (v := ?_) rfl (by kernel_rfl) (by kernel_rfl) (by kernel_rfl) (fun _ _ _ h => h) (Or.inl ⟨by rfl, ?hy⟩) (by assumption) ?_
              case hy => (intro w hSw; (try dsimp only at hSw); go_simp; all_goals with_reducible rfl)
              try simp only [Act.put, List.getElem_toArray, List.getElem_cons_succ, List.getElem_cons_zero, List.setIfInBounds_toArray, List.set_cons_zero, List.set_cons_succ]
              refine wpAnyH_ready (rs := [1]) (by kernel_rfl) (by simp) (AllReadyH.cons rfl (fun K hK => ?_) AllReadyH.nil)
              (first | (go_simp; (go_at_call 16; refine (num_any _ _).mono ?_; rintro e w60 ⟨rfl, rfl⟩)) | go_simp)
              refine hK.out _ _ ?_ (fun hHeld => ?_)
              · exact trivial
              clear hK K
              try simp only [Act.put, List.getElem_toArray, List.getElem_cons_succ, List.getElem_cons_zero, List.setIfInBounds_toArray, List.set_cons_zero, List.set_cons_succ]
              refine wpAnyH_take (i := 2) (v := ?_) rfl (by kernel_rfl) (by kernel_rfl) (by kernel_rfl) (fun _ _ _ h => h) (Or.inl ⟨by rfl, ?hy⟩) (by assumption) ?_
              case hy => (intro w hSw; (try dsimp only at hSw); go_simp; all_goals with_reducible rfl)
              try simp only [Act.put, List.getElem_toArray, List.getElem_cons_succ, List.getElem_cons_zero, List.setIfInBounds_toArray, List.set_cons_zero, List.set_cons_succ]
              refine wpAnyH_take (i := 3) (v := ?_) rfl (by kernel_rfl) (by kernel_rfl) (by kernel_rfl) (fun _ _ _ h => h) (Or.inl ⟨by rfl, ?hy⟩) (by assumption) ?_
              case hy => (intro w hSw; (try dsimp only at hSw); go_simp; all_goals with_reducible rfl)
              try simp only [Act.put, List.getElem_toArray, List.getElem_cons_succ, List.getElem_cons_zero, List.setIfInBounds_toArray, List.set_cons_zero, List.set_cons_succ]
              refine wpAnyH_take (i := 4) (v := ?_) rfl (by kernel_rfl) (by kernel_rfl) (by kernel_rfl) (fun _ _ _ h => h) (Or.inl ⟨by rfl, ?hy⟩) (by assumption) ?_
              case hy => (intro w hSw; (try dsimp only at hSw); go_simp; all_goals with_reducible rfl)
              try simp only [Act.put, List.getElem_toArray, List.getElem_cons_succ, List.getElem_cons_zero, List.setIfInBounds_toArray, List.set_cons_zero, List.set_cons_succ]
              refine wpAnyH_ready (rs := [5]) (by kernel_rfl) (by simp) (AllReadyH.cons rfl (fun K hK => ?_) AllReadyH.nil)
              (first | (go_simp; (go_at_call 16; refine (num_any _ _).mono ?_; rintro e w60 ⟨rfl, rfl⟩)) | go_simp)
              refine hK.out _ _ ?_ (fun hHeld => ?_)
              · exact trivial
              clear hK K
              try simp only [Act.put, List.getElem_toArray, List.getElem_cons_succ, List.getElem_cons_zero, List.setIfInBounds_toArray, List.set_cons_zero, List.set_cons_succ]
              refine wpAnyH_take (i := 6) (v := ?_) rfl (by kernel_rfl) (by kernel_rfl) (by kernel_rfl) (fun _ _ _ h => h) (Or.inl ⟨by rfl, ?hy⟩) (by assumption) ?_
              case hy => (intro w hSw; (try dsimp only at hSw); go_simp; all_goals with_reducible rfl)
              try simp only [Act.put, List.getElem_toArray, List.getElem_cons_succ, List.getElem_cons_zero, List.setIfInBounds_toArray, List.set_cons_zero, List.set_cons_succ]
              refine wpAnyH_take (i := 7) (v := ?_) rfl (by kernel_rfl) (by kernel_rfl) (by kernel_rfl) (fun _ _ _ h => h) (Or.inl ⟨by rfl, ?hy⟩) (by assumption) ?_
              case hy => (intro w hSw; (try dsimp only at hSw); go_simp; all_goals with_reducible rfl)
              try simp only [Act.put, List.getElem_toArray, List.getElem_cons_succ, List.getElem_cons_zero, List.setIfInBounds_toArray, List.set_cons_zero, List.set_cons_succ]
              refine wpAnyH_take (i := 8) (v := ?_) rfl (by kernel_rfl) (by kernel_rfl) (by kernel_rfl) (fun _ _ _ h => h) (Or.inl ⟨by rfl, ?hy⟩) (by assumption) ?_
              case hy => (intro w hSw; (try dsimp only at hSw); go_simp; all_goals with_reducible rfl)
              try simp only [Act.put, List.getElem_toArray, List.getElem_cons_succ, List.getElem_cons_zero, List.setIfInBounds_toArray, List.set_cons_zero, List.set_cons_succ]
              refine wpAnyH_ready (rs := [9]) (by kernel_rfl) (by simp) (AllReadyH.cons rfl (fun K hK => ?_) AllReadyH.nil)
              (first | (go_simp; (go_at_call 16; refine (num_any _ _).mono ?_; rintro e w60 ⟨rfl, rfl⟩)) | go_simp)
              refine hK.out _ _ ?_ (fun hHeld => ?_)
              · exact trivial
              clear hK K
              try simp only [Act.put, List.getElem_toArray, List.getElem_cons_succ, List.getElem_cons_zero, List.setIfInBounds_toArray, List.set_cons_zero, List.set_cons_succ]
              refine wpAnyH_take (i := 10) (v := ?_) rfl (by kernel_rfl) (by kernel_rfl) (by kernel_rfl) (fun _ _ _ h => h) (Or.inl ⟨by rfl, ?hy⟩) (by assumption) ?_
              case hy => (intro w hSw; (try dsimp only at hSw); go_simp; all_goals with_reducible rfl)
              try simp only [Act.put, List.getElem_toArray, List.getElem_cons_succ, List.getElem_cons_zero, List.setIfInBounds_toArray, List.set_cons_zero, List.set_cons_succ]
              refine wpAnyH_take (i := 11) (v := ?_) rfl (by kernel_rfl) (by kernel_rfl) (by kernel_rfl) (fun _ _ _ h => h) (Or.inl ⟨by rfl, ?hy⟩) (by assumption) ?_
              case hy => (intro w hSw; (try dsimp only at hSw); go_simp; all_goals with_reducible rfl)
              try simp only [Act.put, List.getElem_toArray, List.getElem_cons_succ, List.getElem_cons_zero, List.setIfInBounds_toArray, List.set_cons_zero, List.set_cons_succ]
              refine wpAnyH_take (i := 12) (v := ?_) rfl (by kernel_rfl) (by kernel_rfl) (by kernel_rfl) (fun _ _ _ h => h) (Or.inl ⟨by rfl, ?hy⟩) (by assumption) ?_
              case hy => (intro w hSw; (try dsimp only at hSw); go_simp; all_goals with_reducible rfl)
              try simp only [Act.put, List.getElem_toArray, List.getElem_cons_succ, List.getElem_cons_zero, List.setIfInBounds_toArray, List.set_cons_zero, List.set_cons_succ]
              refine wpAnyH_take (i := 13) (v := ?_) rfl (by kernel_rfl) (by kernel_rfl) (by kernel_rfl) (fun _ _ _ h => h) (Or.inl ⟨by rfl, ?hy⟩) (by assumption) ?_
              case hy => (intro w hSw; (try dsimp only at hSw); go_simp; all_goals with_reducible rfl)
              try simp only [Act.put, List.getElem_toArray, List.getElem_cons_succ, List.getElem_cons_zero, List.setIfInBounds_toArray, List.set_cons_zero, List.set_cons_succ]
              refine wpAnyH_take (i := 14) (v := ?_) rfl (by kernel_rfl) (by kernel_rfl) (by kernel_rfl) (fun _ _ _ h => h) (Or.inl ⟨by rfl, ?hy⟩) (by assumption) ?_
              case hy => (intro w hSw; (try dsimp only at hSw); go_simp; all_goals with_reducible rfl)
              try simp only [Act.put, List.getElem_toArray, List.getElem_cons_succ, List.getElem_cons_zero, List.setIfInBounds_toArray, List.set_cons_zero, List.set_cons_succ]
              refine wpAnyH_take (i := 15) (v := ?_) rfl (by kernel_rfl) (by kernel_rfl) (by kernel_rfl) (fun _ _ _ h => h) (Or.inl ⟨by rfl, ?hy⟩) (by assumption) ?_
              case hy => (intro w hSw; (try dsimp only at hSw); go_simp; all_goals with_reducible rfl)
              try simp only [Act.put, List.getElem_toArray, List.getElem_cons_succ, List.getElem_cons_zero, List.setIfInBounds_toArray, List.set_cons_zero, List.set_cons_succ]
              refine wpAnyH_take (i := 16) (v := ?_) rfl (by kernel_rfl) (by kernel_rfl) (by kernel_rfl) (fun _ _ _ h => h) (Or.inl ⟨by rfl, ?hy⟩) (by assumption) ?_
              case hy => (intro w hSw; (try dsimp only at hSw); go_simp; all_goals with_reducible rfl)
              try simp only [Act.put, List.getElem_toArray, List.getElem_cons_succ, List.getElem_cons_zero, List.setIfInBounds_toArray, List.set_cons_zero, List.set_cons_succ]
              refine wpAnyH_take (i := 17) (v := ?_) rfl (by kernel_rfl) (by kernel_rfl) (by kernel_rfl) (fun _ _ _ h => h) (Or.inl ⟨by rfl, ?hy⟩) (by assumption) ?_
              case hy => (intro w hSw; (try dsimp only at hSw); go_simp; all_goals with_reducible rfl)
              try simp only [Act.put, List.getElem_toArray, List.getElem_cons_succ, List.getElem_cons_zero, List.setIfInBounds_toArray, List.set_cons_zero, List.set_cons_succ]
              refine wpAnyH_take (i := 18) (v := ?_) rfl (by kernel_rfl) (by kernel_rfl) (by kernel_rfl) (fun _ _ _ h => h) (Or.inl ⟨by rfl, ?hy⟩) (by assumption) ?_
              case hy => (intro w hSw; (try dsimp only at hSw); go_simp; all_goals with_reducible rfl)
              try simp only [Act.put, List.getElem_toArray, List.getElem_cons_succ, List.getElem_cons_zero, List.setIfInBounds_toArray, List.set_cons_zero, List.set_cons_succ]
              refine wpAnyH_take (i := 19) (v := ?_) rfl (by kernel_rfl) (by kernel_rfl) (by kernel_rfl) (fun _ _ _ h => h) (Or.inl ⟨by rfl, ?hy⟩) (by assumption) ?_
              case hy => (intro w hSw; (try dsimp only at hSw); go_simp; all_goals with_reducible rfl)
              try simp only [Act.put, List.getElem_toArray, List.getElem_cons_succ, List.getElem_cons_zero, List.setIfInBounds_toArray, List.set_cons_zero, List.set_cons_succ]
              refine wpAnyH_take (i := 20) (v := ?_) rfl (by kernel_rfl) (by kernel_rfl) (by kernel_rfl) (fun _ _ _ h => h) (Or.inl ⟨by rfl, ?hy⟩) (by assumption) ?_
              case hy => (intro w hSw; (try dsimp only at hSw); go_simp; all_goals with_reducible rfl)
              try simp only [Act.put, List.getElem_toArray, List.getElem_cons_succ, List.getElem_cons_zero, List.setIfInBounds_toArray, List.set_cons_zero, List.set_cons_succ]
              refine wpAnyH_take (i := 21) (v := ?_) rfl (by kernel_rfl) (by kernel_rfl) (by kernel_rfl) (fun _ _ _ h => h) (Or.inl ⟨by rfl, ?hy⟩) (by assumption) ?_
              case hy => (intro w hSw; (try dsimp only at hSw); go_simp; all_goals with_reducible rfl)
              try simp only [Act.put, List.getElem_toArray, List.getElem_cons_succ, List.getElem_cons_zero, List.setIfInBounds_toArray, List.set_cons_zero, List.set_cons_succ]
              refine wpAnyH_take (i := 22) (v := ?_) rfl (by kernel_rfl) (by kernel_rfl) (by kernel_rfl) (fun _ _ _ h => h) (Or.inl ⟨by rfl, ?hy⟩) (by assumption) ?_
              case hy => (intro w hSw; (try dsimp only at hSw); go_simp; all_goals with_reducible rfl)
              try simp only [Act.put, List.getElem_toArray, List.getElem_cons_succ, List.getElem_cons_zero, List.setIfInBounds_toArray, List.set_cons_zero, List.set_cons_succ]
              refine wpAnyH_take (i := 23) (v := ?_) rfl (by kernel_rfl) (by kernel_rfl) (by kernel_rfl) (fun _ _ _ h => h) (Or.inl ⟨by rfl, ?hy⟩) (by assumption) ?_
              case hy => (intro w hSw; (try dsimp only at hSw); go_simp; all_goals with_reducible rfl)
              try simp only [Act.put, List.getElem_toArray, List.getElem_cons_succ, List.getElem_cons_zero, List.setIfInBounds_toArray, List.set_cons_zero, List.set_cons_succ]
              refine wpAnyH_take (i := 24) (v := ?_) rfl (by kernel_rfl) (by kernel_rfl) (by kernel_rfl) (fun _ _ _ h => h) (Or.inl ⟨by rfl, ?hy⟩) (by assumption) ?_
              case hy => (intro w hSw; (try dsimp only at hSw); go_simp; all_goals with_reducible rfl)
              try simp only [Act.put, List.getElem_toArray, List.getElem_cons_succ, List.getElem_cons_zero, List.setIfInBounds_toArray, List.set_cons_zero, List.set_cons_succ]
              refine wpAnyH_take (i := 25) (v := ?_) rfl (by kernel_rfl) (by kernel_rfl) (by kernel_rfl) (fun _ _ _ h => h) (Or.inl ⟨by rfl, ?hy⟩) (by assumption) ?_
              case hy => (intro w hSw; (try dsimp only at hSw); go_simp; all_goals with_reducible rfl)
              try simp only [Act.put, List.getElem_toArray, List.getElem_cons_succ, List.getElem_cons_zero, List.setIfInBounds_toArray, List.set_cons_zero, List.set_cons_succ]
              refine wpAnyH_take (i := 26) (v := ?_) rfl (by kernel_rfl) (by kernel_rfl) (by kernel_rfl) (fun _ _ _ h => h) (Or.inl ⟨by rfl, ?hy⟩) (by assumption) ?_
              case hy => (intro w hSw; (try dsimp only at hSw); go_simp; all_goals with_reducible rfl)
              try simp only [Act.put, List.getElem_toArray, List.getElem_cons_succ, List.getElem_cons_zero, List.setIfInBounds_toArray, List.set_cons_zero, List.set_cons_succ]
              refine wpAnyH_take (i := 27) (v := ?_) rfl (by kernel_rfl) (by kernel_rfl) (by kernel_rfl) (fun _ _ _ h => h) (Or.inl ⟨by rfl, ?hy⟩) (by assumption) ?_
              case hy => (intro w hSw; (try dsimp only at hSw); go_simp; all_goals with_reducible rfl)
              try simp only [Act.put, List.getElem_toArray, List.getElem_cons_succ, List.getElem_cons_zero, List.setIfInBounds_toArray, List.set_cons_zero, List.set_cons_succ]
              refine wpAnyH_take (i := 28) (v := ?_) rfl (by kernel_rfl) (by kernel_rfl) (by kernel_rfl) (fun _ _ _ h => h) (Or.inl ⟨by rfl, ?hy⟩) (by assumption) ?_
              case hy => (intro w hSw; (try dsimp only at hSw); go_simp; all_goals with_reducible rfl)
              try simp only [Act.put, List.getElem_toArray, List.getElem_cons_succ, List.getElem_cons_zero, List.setIfInBounds_toArray, List.set_cons_zero, List.set_cons_succ]
              refine wpAnyH_take (i := 29) (v := ?_) rfl (by kernel_rfl) (by kernel_rfl) (by kernel_rfl) (fun _ _ _ h => h) (Or.inl ⟨by rfl, ?hy⟩) (by assumption) ?_
              case hy => (intro w hSw; (try dsimp only at hSw); go_simp; all_goals with_reducible rfl)
              try simp only [Act.put, List.getElem_toArray, List.getElem_cons_succ, List.getElem_cons_zero, List.setIfInBounds_toArray, List.set_cons_zero, List.set_cons_succ]
              refine wpAnyH_take (i := 30) (v := ?_) rfl (by kernel_rfl) (by kernel_rfl) (by kernel_rfl) (fun _ _ _ h => h) (Or.inl ⟨by rfl, ?hy⟩) (by assumption) ?_
              case hy => (intro w hSw; (try dsimp only at hSw); go_simp; all_goals with_reducible rfl)
              try simp only [Act.put, List.getElem_toArray, List.getElem_cons_succ, List.getElem_cons_zero, List.setIfInBounds_toArray, List.set_cons_zero, List.set_cons_succ]
              refine wpAnyH_take (i := 31) (v := ?_) rfl (by kernel_rfl) (by kernel_rfl) (by kernel_rfl) (fun _ _ _ h => h) (Or.inl ⟨by rfl, ?hy⟩) (by assumption) ?_
              case hy => (intro w hSw; (try dsimp only at hSw); go_simp; all_goals with_reducible rfl)
              try simp only [Act.put, List.getElem_toArray, List.getElem_cons_succ, List.getElem_cons_zero, List.setIfInBounds_toArray, List.set_cons_zero, List.set_cons_succ]
              refine wpAnyH_take (i := 32) (v := ?_) rfl (by kernel_rfl) (by kernel_rfl) (by kernel_rfl) (fun _ _ _ h => h) (Or.inl ⟨by rfl, ?hy⟩) (by assumption) ?_
              case hy => (intro w hSw; (try dsimp only at hSw); go_simp; all_goals with_reducible rfl)
              try simp only [Act.put, List.getElem_toArray, List.getElem_cons_succ, List.getElem_cons_zero, List.setIfInBounds_toArray, List.set_cons_zero, List.set_cons_succ]
              refine wpAnyH_take (i := 33) (v := ?_) rfl (by kernel_rfl) (by kernel_rfl) (by kernel_rfl) (fun _ _ _ h => h) (Or.inl ⟨by rfl, ?hy⟩) (by assumption) ?_
              case hy => (intro w hSw; (try dsimp only at hSw); go_simp; all_goals with_reducible rfl)
              try simp only [Act.put, List.getElem_toArray, List.getElem_cons_succ, List.getElem_cons_zero, List.setIfInBounds_toArray, List.set_cons_zero, List.set_cons_succ]
              refine wpAnyH_take (i := 35) (v := ?_) rfl (by kernel_rfl) (by kernel_rfl) (by kernel_rfl) (fun _ _ _ h => h) (Or.inl ⟨by rfl, ?hy⟩) (by assumption) ?_
              case hy => (intro w hSw; (try dsimp only at hSw); go_simp; all_goals with_reducible rfl)
              try simp only [Act.put, List.getElem_toArray, List.getElem_cons_succ, List.getElem_cons_zero, List.setIfInBounds_toArray, List.set_cons_zero, List.set_cons_succ]
              refine wpAnyH_ready (rs := [34, 36]) (by kernel_rfl) (by simp) (AllReadyH.cons rfl (fun K hK => ?_) (AllReadyH.cons rfl (fun K hK => ?_) AllReadyH.nil))
              · go_simp
                refine hK.out _ _ ?_ (fun hHeld => ?_)
                · exact trivial
                clear hK K
                try simp only [Act.put, List.getElem_toArray, List.getElem_cons_succ, List.getElem_cons_zero, List.setIfInBounds_toArray, List.set_cons_zero, List.set_cons_succ]
                refine wpAnyH_ready (rs := [36]) (by kernel_rfl) (by simp) (AllReadyH.cons rfl (fun K hK => ?_) AllReadyH.nil)
                go_simp
                refine hK.out _ _ ?_ (fun hHeld => ?_)
                · exact trivial
                clear hK K
                try simp only [Act.put, List.getElem_toArray, List.getElem_cons_succ, List.getElem_cons_zero, List.setIfInBounds_toArray, List.set_cons_zero, List.set_cons_succ]
                refine wpAnyH_take (i := 37) (v := ?_) rfl (by kernel_rfl) (by kernel_rfl) (by kernel_rfl) (fun _ _ _ h => h) (Or.inl ⟨by rfl, ?hy⟩) (by assumption) ?_
                case hy => (intro w hSw; (try dsimp only at hSw); go_simp; all_goals with_reducible rfl)
                try simp only [Act.put, List.getElem_toArray, List.getElem_cons_succ, List.getElem_cons_zero, List.setIfInBounds_toArray, List.set_cons_zero, List.set_cons_succ]
                refine wpAnyH_take (i := 38) (v := ?_) rfl (by kernel_rfl) (by kernel_rfl) (by kernel_rfl) (fun _ _ _ h => h) (Or.inl ⟨by rfl, ?hy⟩) (by assumption) ?_
                case hy => (intro w hSw; (try dsimp only at hSw); go_simp; all_goals with_reducible rfl)
                try simp only [Act.put, List.getElem_toArray, List.getElem_cons_succ, List.getElem_cons_zero, List.setIfInBounds_toArray, List.set_cons_zero, List.set_cons_succ]
                refine wpAnyH_take (i := 39) (v := ?_) rfl (by kernel_rfl) (by kernel_rfl) (by kernel_rfl) (fun _ _ _ h => h) (Or.inl ⟨by rfl, ?hy⟩) (by assumption) ?_
                case hy => (intro w hSw; (try dsimp only at hSw); go_simp; all_goals with_reducible rfl)
                try simp only [Act.put, List.getElem_toArray, List.getElem_cons_succ, List.getElem_cons_zero, List.setIfInBounds_toArray, List.set_cons_zero, List.set_cons_succ]
                refine wpAnyH_done (by kernel_rfl) ?_ _
                (have h1 := H1.out; have h2 := H2.out; have h4 := H4.out; (try go_wp2_with fail); go_meet; exact ⟨rfl, (Below.refl _ w10).drew⟩)
              · go_simp
                refine hK.out _ _ ?_ (fun hHeld => ?_)
                · exact trivial
                clear hK K
                try simp only [Act.put, List.getElem_toArray, List.getElem_cons_succ, List.getElem_cons_zero, List.setIfInBounds_toArray, List.set_cons_zero, List.set_cons_succ]
                refine wpAnyH_ready (rs := [34]) (by kernel_rfl) (by simp) (AllReadyH.cons rfl (fun K hK => ?_) AllReadyH.nil)
                go_simp
                refine hK.out _ _ ?_ (fun hHeld => ?_)
                · exact trivial
                clear hK K
                try simp only [Act.put, List.getElem_toArray, List.getElem_cons_succ, List.getElem_cons_zero, List.setIfInBounds_toArray, List.set_cons_zero, List.set_cons_succ]
                refine wpAnyH_take (i := 37) (v := ?_) rfl (by kernel_rfl) (by kernel_rfl) (by kernel_rfl) (fun _ _ _ h => h) (Or.inl ⟨by rfl, ?hy⟩) (by assumption) ?_
                case hy => (intro w hSw; (try dsimp only at hSw); go_simp; all_goals with_reducible rfl)
                try simp only [Act.put, List.getElem_toArray, List.getElem_cons_succ, List.getElem_cons_zero, List.setIfInBounds_toArray, List.set_cons_zero, List.set_cons_succ]
                refine wpAnyH_take (i := 38) (v := ?_) rfl (by kernel_rfl) (by kernel_rfl) (by kernel_rfl) (fun _ _ _ h => h) (Or.inl ⟨by rfl, ?hy⟩) (by assumption) ?_
                case hy => (intro w hSw; (try dsimp only at hSw); go_simp; all_goals with_reducible rfl)
                try simp only [Act.put, List.getElem_toArray, List.getElem_cons_succ, List.getElem_cons_zero, List.setIfInBounds_toArray, List.set_cons_zero, List.set_cons_succ]
                refine wpAnyH_take (i := 39) (v := ?_) rfl (by kernel_rfl) (by kernel_rfl) (by kernel_rfl) (fun _ _ _ h => h) (Or.inl ⟨by rfl, ?hy⟩) (by assumption) ?_
                case hy => (intro w hSw; (try dsimp only at hSw); go_simp; all_goals with_reducible rfl)
                try simp only [Act.put, List.getElem_toArray, List.getElem_cons_succ, List.getElem_cons_zero, List.setIfInBounds_toArray, List.set_cons_zero, List.set_cons_succ]
                refine wpAnyH_done (by kernel_rfl) ?_ _
                (have h1 := H1.out; have h2 := H2.out; have h4 := H4.out; (try go_wp2_with fail); go_meet; exact ⟨rfl, (Below.refl _ w10).drew⟩)
            · have hf0 : (F1 == 0) = false := by simpa using hf
              clear hf HLst hwas10 hleft10
              refine wp_region_held_drew (S := (fun _ => True)) (by kernel_rfl) ?_ (fun hHeld => ?_)
              · exact trivial
              refine wpAnyH_take (i := 0) (v := ?_) rfl (by kernel_rfl) (by kernel_rfl) (by kernel_rfl) (fun _ _ _ h => h) (Or.inl ⟨by rfl, ?hy⟩) (by assumption) ?_
              case hy => (intro w hSw; (try dsimp only at hSw); go_simp; all_goals with_reducible rfl)
              try simp only [Act.put, List.getElem_toArray, List.getElem_cons_succ, List.getElem_cons_zero, List.setIfInBounds_toArray, List.set_cons_zero, List.set_cons_succ]
              refine wpAnyH_ready (rs := [1]) (by kernel_rfl) (by simp) (AllReadyH.cons rfl (fun K hK => ?_) AllReadyH.nil)
              (go_simp; (go_at_call 16; refine (num_any _ _).mono ?_; rintro e w60 ⟨rfl, rfl⟩))
              refine hK.out _ _ ?_ (fun hHeld => ?_)
              · exact trivial
              clear hK K
              try simp only [Act.put, List.getElem_toArray, List.getElem_cons_succ, List.getElem_cons_zero, List.setIfInBounds_toArray, List.set_cons_zero, List.set_cons_succ]
              refine wpAnyH_take (i := 2) (v := ?_) rfl (by kernel_rfl) (by kernel_rfl) (by kernel_rfl) (fun _ _ _ h => h) (Or.inl ⟨by rfl, ?hy⟩) (by assumption) ?_
              case hy => (intro w hSw; (try dsimp only at hSw); go_simp; all_goals with_reducible rfl)
              try simp only [Act.put, List.getElem_toArray, List.getElem_cons_succ, List.getElem_cons_zero, List.setIfInBounds_toArray, List.set_cons_zero, List.set_cons_succ]
              refine wpAnyH_take (i := 3) (v := ?_) rfl (by kernel_rfl) (by kernel_rfl) (by kernel_rfl) (fun _ _ _ h => h) (Or.inl ⟨by rfl, ?hy⟩) (by assumption) ?_
              case hy => (intro w hSw; (try dsimp only at hSw); go_simp; all_goals with_reducible rfl)
              try simp only [Act.put, List.getElem_toArray, List.getElem_cons_succ, List.getElem_cons_zero, List.setIfInBounds_toArray, List.set_cons_zero, List.set_cons_succ]
              refine wpAnyH_take (i := 4) (v := undef) rfl (by kernel_rfl) (by kernel_rfl) (by kernel_rfl) (fun _ _ _ h => h) (Or.inr ⟨by rfl, rfl⟩) (by assumption) ?_
              try simp only [Act.put, List.getElem_toArray, List.getElem_cons_succ, List.getElem_cons_zero, List.setIfInBounds_toArray, List.set_cons_zero, List.set_cons_succ]
              refine wpAnyH_ready (rs := [5]) (by kernel_rfl) (by simp) (AllReadyH.cons rfl (fun K hK => ?_) AllReadyH.nil)
              go_simp
              refine hK.out _ _ ?_ (fun hHeld => ?_)
              · exact trivial
              clear hK K
              try simp only [Act.put, List.getElem_toArray, List.getElem_cons_succ, List.getElem_cons_zero, List.setIfInBounds_toArray, List.set_cons_zero, List.set_cons_succ]
              refine wpAnyH_take (i := 6) (v := undef) rfl (by kernel_rfl) (by kernel_rfl) (by kernel_rfl) (fun _ _ _ h => h) (Or.inr ⟨by rfl, rfl⟩) (by assumption) ?_
              try simp only [Act.put, List.getElem_toArray, List.getElem_cons_succ, List.getElem_cons_zero, List.setIfInBounds_toArray, List.set_cons_zero, List.set_cons_succ]
              refine wpAnyH_take (i := 7) (v := undef) rfl (by kernel_rfl) (by kernel_rfl) (by kernel_rfl) (fun _ _ _ h => h) (Or.inr ⟨by rfl, rfl⟩) (by assumption) ?_
              try simp only [Act.put, List.getElem_toArray, List.getElem_cons_succ, List.getElem_cons_zero, List.setIfInBounds_toArray, List.set_cons_zero, List.set_cons_succ]
              refine wpAnyH_take (i := 8) (v := undef) rfl (by kernel_rfl) (by kernel_rfl) (by kernel_rfl) (fun _ _ _ h => h) (Or.inr ⟨by rfl, rfl⟩) (by assumption) ?_
              try simp only [Act.put, List.getElem_toArray, List.getElem_cons_succ, List.getElem_cons_zero, List.setIfInBounds_toArray, List.set_cons_zero, List.set_cons_succ]
              refine wpAnyH_ready (rs := [9]) (by kernel_rfl) (by simp) (AllReadyH.cons rfl (fun K hK => ?_) AllReadyH.nil)
              go_simp
              refine hK.out _ _ ?_ (fun hHeld => ?_)
              · exact trivial
              clear hK K
              try simp only [Act.put, List.getElem_toArray, List.getElem_cons_succ, List.getElem_cons_zero, List.setIfInBounds_toArray, List.set_cons_zero, List.set_cons_succ]
              refine wpAnyH_take (i := 10) (v := undef) rfl (by kernel_rfl) (by kernel_rfl) (by kernel_rfl) (fun _ _ _ h => h) (Or.inr ⟨by rfl, rfl⟩) (by assumption) ?_
              try simp only [Act.put, List.getElem_toArray, List.getElem_cons_succ, List.getElem_cons_zero, List.setIfInBounds_toArray, List.set_cons_zero, List.set_cons_succ]
              refine wpAnyH_take (i := 11) (v := undef) rfl (by kernel_rfl) (by kernel_rfl) (by kernel_rfl) (fun _ _ _ h => h) (Or.inr ⟨by rfl, rfl⟩) (by assumption) ?_
              try simp only [Act.put, List.getElem_toArray, List.getElem_cons_succ, List.getElem_cons_zero, List.setIfInBounds_toArray, List.set_cons_zero, List.set_cons_succ]
              refine wpAnyH_take (i := 12) (v := undef) rfl (by kernel_rfl) (by kernel_rfl) (by kernel_rfl) (fun _ _ _ h => h) (Or.inr ⟨by rfl, rfl⟩) (by assumption) ?_
              try simp only [Act.put, List.getElem_toArray, List.getElem_cons_succ, List.getElem_cons_zero, List.setIfInBounds_toArray, List.set_cons_zero, List.set_cons_succ]
              refine wpAnyH_take (i := 13) (v := undef) rfl (by kernel_rfl) (by kernel_rfl) (by kernel_rfl) (fun _ _ _ h => h) (Or.inr ⟨by rfl, rfl⟩) (by assumption) ?_
              try simp only [Act.put, List.getElem_toArray, List.getElem_cons_succ, List.getElem_cons_zero, List.setIfInBounds_toArray, List.set_cons_zero, List.set_cons_succ]
              refine wpAnyH_take (i := 14) (v := undef) rfl (by kernel_rfl) (by kernel_rfl) (by kernel_rfl) (fun _ _ _ h => h) (Or.inr ⟨by rfl, rfl⟩) (by assumption) ?_
              try simp only [Act.put, List.getElem_toArray, List.getElem_cons_succ, List.getElem_cons_zero, List.setIfInBounds_toArray, List.set_cons_zero, List.set_cons_succ]
              refine wpAnyH_take (i := 15) (v := undef) rfl (by kernel_rfl) (by kernel_rfl) (by kernel_rfl) (fun _ _ _ h => h) (Or.inr ⟨by rfl, rfl⟩) (by assumption) ?_
              try simp only [Act.put, List.getElem_toArray, List.getElem_cons_succ, List.getElem_cons_zero, List.setIfInBounds_toArray, List.set_cons_zero, List.set_cons_succ]
              refine wpAnyH_take (i := 16) (v := undef) rfl (by kernel_rfl) (by kernel_rfl) (by kernel_rfl) (fun _ _ _ h => h) (Or.inr ⟨by rfl, rfl⟩) (by assumption) ?_
              try simp only [Act.put, List.getElem_toArray, List.getElem_cons_succ, List.getElem_cons_zero, List.setIfInBounds_toArray, List.set_cons_zero, List.set_cons_succ]
              refine wpAnyH_take (i := 17) (v := undef) rfl (by kernel_rfl) (by kernel_rfl) (by kernel_rfl) (fun _ _ _ h => h) (Or.inr ⟨by rfl, rfl⟩) (by assumption) ?_
              try simp only [Act.put, List.getElem_toArray, List.getElem_cons_succ, List.getElem_cons_zero, List.setIfInBounds_toArray, List.set_cons_zero, List.set_cons_succ]
              refine wpAnyH_take (i := 18) (v := undef) rfl (by kernel_rfl) (by kernel_rfl) (by kernel_rfl) (fun _ _ _ h => h) (Or.inr ⟨by rfl, rfl⟩) (by assumption) ?_
              try simp only [Act.put, List.getElem_toArray, List.getElem_cons_succ, List.getElem_cons_zero, List.setIfInBounds_toArray, List.set_cons_zero, List.set_cons_succ]
              refine wpAnyH_take (i := 19) (v := undef) rfl (by kernel_rfl) (by kernel_rfl) (by kernel_rfl) (fun _ _ _ h => h) (Or.inr ⟨by rfl, rfl⟩) (by assumption) ?_
              try simp only [Act.put, List.getElem_toArray, List.getElem_cons_succ, List.getElem_cons_zero, List.setIfInBounds_toArray, List.set_cons_zero, List.set_cons_succ]
              refine wpAnyH_take (i := 20) (v := undef) rfl (by kernel_rfl) (by kernel_rfl) (by kernel_rfl) (fun _ _ _ h => h) (Or.inr ⟨by rfl, rfl⟩) (by assumption) ?_
              try simp only [Act.put, List.getElem_toArray, List.getElem_cons_succ, List.getElem_cons_zero, List.setIfInBounds_toArray, List.set_cons_zero, List.set_cons_succ]
              refine wpAnyH_take (i := 21) (v := undef) rfl (by kernel_rfl) (by kernel_rfl) (by kernel_rfl) (fun _ _ _ h => h) (Or.inr ⟨by rfl, rfl⟩) (by assumption) ?_
              try simp only [Act.put, List.getElem_toArray, List.getElem_cons_succ, List.getElem_cons_zero, List.setIfInBounds_toArray, List.set_cons_zero, List.set_cons_succ]
              refine wpAnyH_take (i := 22) (v := undef) rfl (by kernel_rfl) (by kernel_rfl) (by kernel_rfl) (fun _ _ _ h => h) (Or.inr ⟨by rfl, rfl⟩) (by assumption) ?_
              try simp only [Act.put, List.getElem_toArray, List.getElem_cons_succ, List.getElem_cons_zero, List.setIfInBounds_toArray, List.set_cons_zero, List.set_cons_succ]
              refine wpAnyH_take (i := 23) (v := undef) rfl (by kernel_rfl) (by kernel_rfl) (by kernel_rfl) (fun _ _ _ h => h) (Or.inr ⟨by rfl, rfl⟩) (by assumption) ?_
              try simp only [Act.put, List.getElem_toArray, List.getElem_cons_succ, List.getElem_cons_zero, List.setIfInBounds_toArray, List.set_cons_zero, List.set_cons_succ]
              refine wpAnyH_take (i := 24) (v := undef) rfl (by kernel_rfl) (by kernel_rfl) (by kernel_rfl) (fun _ _ _ h => h) (Or.inr ⟨by rfl, rfl⟩) (by assumption) ?_
              try simp only [Act.put, List.getElem_toArray, List.getElem_cons_succ, List.getElem_cons_zero, List.setIfInBounds_toArray, List.set_cons_zero, List.set_cons_succ]
              refine wpAnyH_take (i := 25) (v := undef) rfl (by kernel_rfl) (by kernel_rfl) (by kernel_rfl) (fun _ _ _ h => h) (Or.inr ⟨by rfl, rfl⟩) (by assumption) ?_
              try simp only [Act.put, List.getElem_toArray, List.getElem_cons_succ, List.getElem_cons_zero, List.setIfInBounds_toArray, List.set_cons_zero, List.set_cons_succ]
              refine wpAnyH_take (i := 26) (v := undef) rfl (by kernel_rfl) (by kernel_rfl) (by kernel_rfl) (fun _ _ _ h => h) (Or.inr ⟨by rfl, rfl⟩) (by assumption) ?_
              try simp only [Act.put, List.getElem_toArray, List.getElem_cons_succ, List.getElem_cons_zero, List.setIfInBounds_toArray, List.set_cons_zero, List.set_cons_succ]
              refine wpAnyH_take (i := 27) (v := undef) rfl (by kernel_rfl) (by kernel_rfl) (by kernel_rfl) (fun _ _ _ h => h) (Or.inr ⟨by rfl, rfl⟩) (by assumption) ?_
              try simp only [Act.put, List.getElem_toArray, List.getElem_cons_succ, List.getElem_cons_zero, List.setIfInBounds_toArray, List.set_cons_zero, List.set_cons_succ]
              refine wpAnyH_take (i := 28) (v := undef) rfl (by kernel_rfl) (by kernel_rfl) (by kernel_rfl) (fun _ _ _ h => h) (Or.inr ⟨by rfl, rfl⟩) (by assumption) ?_
              try simp only [Act.put, List.getElem_toArray, List.getElem_cons_succ, List.getElem_cons_zero, List.setIfInBounds_toArray, List.set_cons_zero, List.set_cons_succ]
              refine wpAnyH_take (i := 29) (v := undef) rfl (by kernel_rfl) (by kernel_rfl) (by kernel_rfl) (fun _ _ _ h => h) (Or.inr ⟨by rfl, rfl⟩) (by assumption) ?_
              try simp only [Act.put, List.getElem_toArray, List.getElem_cons_succ, List.getElem_cons_zero, List.setIfInBounds_toArray, List.set_cons_zero, List.set_cons_succ]
              refine wpAnyH_take (i := 30) (v := undef) rfl (by kernel_rfl) (by kernel_rfl) (by kernel_rfl) (fun _ _ _ h => h) (Or.inr ⟨by rfl, rfl⟩) (by assumption) ?_
              try simp only [Act.put, List.getElem_toArray, List.getElem_cons_succ, List.getElem_cons_zero, List.setIfInBounds_toArray, List.set_cons_zero, List.set_cons_succ]
              refine wpAnyH_take (i := 31) (v := undef) rfl (by kernel_rfl) (by kernel_rfl) (by kernel_rfl) (fun _ _ _ h => h) (Or.inr ⟨by rfl, rfl⟩) (by assumption) ?_
              try simp only [Act.put, List.getElem_toArray, List.getElem_cons_succ, List.getElem_cons_zero, List.setIfInBounds_toArray, List.set_cons_zero, List.set_cons_succ]
              refine wpAnyH_take (i := 32) (v := undef) rfl (by kernel_rfl) (by kernel_rfl) (by kernel_rfl) (fun _ _ _ h => h) (Or.inr ⟨by rfl, rfl⟩) (by assumption) ?_
              try simp only [Act.put, List.getElem_toArray, List.getElem_cons_succ, List.getElem_cons_zero, List.setIfInBounds_toArray, List.set_cons_zero, List.set_cons_succ]
              refine wpAnyH_take (i := 33) (v := undef) rfl (by kernel_rfl) (by kernel_rfl) (by kernel_rfl) (fun _ _ _ h => h) (Or.inr ⟨by rfl, rfl⟩) (by assumption) ?_
              try simp only [Act.put, List.getElem_toArray, List.getElem_cons_succ, List.getElem_cons_zero, List.setIfInBounds_toArray, List.set_cons_zero, List.set_cons_succ]
              refine wpAnyH_take (i := 35) (v := undef) rfl (by kernel_rfl) (by kernel_rfl) (by kernel_rfl) (fun _ _ _ h => h) (Or.inr ⟨by rfl, rfl⟩) (by assumption) ?_
              try simp only [Act.put, List.getElem_toArray, List.getElem_cons_succ, List.getElem_cons_zero, List.setIfInBounds_toArray, List.set_cons_zero, List.set_cons_succ]
              refine wpAnyH_ready (rs := [34, 36]) (by kernel_rfl) (by simp) (AllReadyH.cons rfl (fun K hK => ?_) (AllReadyH.cons rfl (fun K hK => ?_) AllReadyH.nil))
              · go_simp
                refine hK.out _ _ ?_ (fun hHeld => ?_)
                · exact trivial
                clear hK K
                try simp only [Act.put, List.getElem_toArray, List.getElem_cons_succ, List.getElem_cons_zero, List.setIfInBounds_toArray, List.set_cons_zero, List.set_cons_succ]
                refine wpAnyH_ready (rs := [36]) (by kernel_rfl) (by simp) (AllReadyH.cons rfl (fun K hK => ?_) AllReadyH.nil)
                go_simp
                refine hK.out _ _ ?_ (fun hHeld => ?_)
                · exact trivial
                clear hK K
                try simp only [Act.put, List.getElem_toArray, List.getElem_cons_succ, List.getElem_cons_zero, List.setIfInBounds_toArray, List.set_cons_zero, List.set_cons_succ]
                refine wpAnyH_take (i := 37) (v := undef) rfl (by kernel_rfl) (by kernel_rfl) (by kernel_rfl) (fun _ _ _ h => h) (Or.inr ⟨by rfl, rfl⟩) (by assumption) ?_
                try simp only [Act.put, List.getElem_toArray, List.getElem_cons_succ, List.getElem_cons_zero, List.setIfInBounds_toArray, List.set_cons_zero, List.set_cons_succ]
                refine wpAnyH_take (i := 38) (v := undef) rfl (by kernel_rfl) (by kernel_rfl) (by kernel_rfl) (fun _ _ _ h => h) (Or.inr ⟨by rfl, rfl⟩) (by assumption) ?_
                try simp only [Act.put, List.getElem_toArray, List.getElem_cons_succ, List.getElem_cons_zero, List.setIfInBounds_toArray, List.set_cons_zero, List.set_cons_succ]
                refine wpAnyH_take (i := 39) (v := ?_) rfl (by kernel_rfl) (by kernel_rfl) (by kernel_rfl) (fun _ _ _ h => h) (Or.inl ⟨by rfl, ?hy⟩) (by assumption) ?_
                case hy => (intro w hSw; (try dsimp only at hSw); go_simp; all_goals with_reducible rfl)
                try simp only [Act.put, List.getElem_toArray, List.getElem_cons_succ, List.getElem_cons_zero, List.setIfInBounds_toArray, List.set_cons_zero, List.set_cons_succ]
                refine wpAnyH_done (by kernel_rfl) ?_ _
                (have h1 := H1.out; have h2 := H2.out; have h4 := H4.out; (try go_wp2_with fail); go_meet; exact ⟨rfl, (Below.refl _ w10).drew⟩)
              · go_simp
                refine hK.out _ _ ?_ (fun hHeld => ?_)
                · exact trivial
                clear hK K
                try simp only [Act.put, List.getElem_toArray, List.getElem_cons_succ, List.getElem_cons_zero, List.setIfInBounds_toArray, List.set_cons_zero, List.set_cons_succ]
                refine wpAnyH_ready (rs := [34]) (by kernel_rfl) (by simp) (AllReadyH.cons rfl (fun K hK => ?_) AllReadyH.nil)
                go_simp
                refine hK.out _ _ ?_ (fun hHeld => ?_)
                · exact trivial
                clear hK K
                try simp only [Act.put, List.getElem_toArray, List.getElem_cons_succ, List.getElem_cons_zero, List.setIfInBounds_toArray, List.set_cons_zero, List.set_cons_succ]
                refine wpAnyH_take (i := 37) (v := undef) rfl (by kernel_rfl) (by kernel_rfl) (by kernel_rfl) (fun _ _ _ h => h) (Or.inr ⟨by rfl, rfl⟩) (by assumption) ?_
                try simp only [Act.put, List.getElem_toArray, List.getElem_cons_succ, List.getElem_cons_zero, List.setIfInBounds_toArray, List.set_cons_zero, List.set_cons_succ]
                refine wpAnyH_take (i := 38) (v := undef) rfl (by kernel_rfl) (by kernel_rfl) (by kernel_rfl) (fun _ _ _ h => h) (Or.inr ⟨by rfl, rfl⟩) (by assumption) ?_
                try simp only [Act.put, List.getElem_toArray, List.getElem_cons_succ, List.getElem_cons_zero, List.setIfInBounds_toArray, List.set_cons_zero, List.set_cons_succ]
                refine wpAnyH_take (i := 39) (v := ?_) rfl (by kernel_rfl) (by kernel_rfl) (by kernel_rfl) (fun _ _ _ h => h) (Or.inl ⟨by rfl, ?hy⟩) (by assumption) ?_
                case hy => (intro w hSw; (try dsimp only at hSw); go_simp; all_goals with_reducible rfl)
                try simp only [Act.put, List.getElem_toArray, List.getElem_cons_succ, List.getElem_cons_zero, List.setIfInBounds_toArray, List.set_cons_zero, List.set_cons_succ]
                refine wpAnyH_done (by kernel_rfl) ?_ _
                (have h1 := H1.out; have h2 := H2.out; have h4 := H4.out; (try go_wp2_with fail); go_meet; exact ⟨rfl, (Below.refl _ w10).drew⟩)
          case rest =>
            obtain ⟨rfl, hb11⟩ := hcut
            have hd11 := hd10.below hb11
            have hdc11 := hdc10.below hb11
            have hbw11 := hbw10.trans (hb11.mono hbw10.size)
            have hz11 := Nat.le_trans hz10 hb11.size
            have hz811 := Nat.le_trans hz89 hb11.size
            have hLD : D2.l.length ≤ n + 1 := by
              have h1 := sync_len ⟨l.map adat, 0, false, 0⟩ name
              rw [← HD1.out, show (⟨l.map adat, 0, false, 0⟩ : DS).l.length = n from (List.length_map _).trans HL.out] at h1
              have h2 := (FitK.step (d := D1) (K := n) (name := name) (c := .app bs) ⟨h1, hK1.all⟩ hsn (fun t e => by cases e)).num
              rw [← HD2.out] at h2
              exact h2
            have hCag : crashL [] C = C := by rw [HC.out]; exact crash_again hsy8 ks
            have hAll : crashL (List.replicate (n + 1) 9223372036854775807) D2.l = D2.l.map fun x => (x.1, x.2.1, x.2.1.length) := crash_all hsy8 (fun x hx => (hK2.all x hx).2.1) hLD
            have hCag' := hide hCag
            obtain ⟨KL, hKL⟩ : ∃ x, x = D2.l.map fun x => (x.1, x.2.1, x.2.1.length) := ⟨_, rfl⟩
            have hKn : Hid (KL.length = D2.l.length) := by rw [hKL]; exact List.length_map _
            rw [← hKL] at hAll
            have hAll' := hide hAll
            have hKL' := hide hKL
            clear hCag hAll hKL hd10 hdc10 hbw10 hb11 hz10 hz89 HLst hwas10 hleft10
            go_wp2_with fail
            go_loopw [17, 18] (fun v i wr => ∃ t : Nat, t ≤ n + 1 ∧ i = .int .i64 t ∧ wr.ownsRow wc.heap.size 3 1 v t (ivs (List.replicate t 9223372036854775807)) ∧ Below wc.heap.size wc wr) (fun _ i _ => n + 1 - (intOf i).toNat)
            case atStart => exact ⟨0, by omega, rfl, World.ownsRow_nil _ _ _ _, Below.refl _ _⟩
            case round =>
              obtain ⟨t, htn, rfl, hown, hbr⟩ := hrel
              by_cases ht : t ≤ n
              · have d1 : decide (t ≤ n) = true := decide_eq_true ht
                have d1' : decide ((t : Int) ≤ (n : Int)) = true := decide_eq_true (by omega)
                have htI : (t : Int) ≤ (n : Int) := by omega
                have hw2 : IntKind.i64.wrap ((t : Int) + 1) = (t : Int) + 1 := IntWalk.i64_in _ (by omega)
                have hone := Reads.one_new wr (.int .i64 9223372036854775807) 3
                have hown1 : (wr.alloc (.cells #[.int .i64 9223372036854775807] 3)).ownsRow wc.heap.size 3 1 _ t (ivs (List.replicate t 9223372036854775807)) := hown.alloc _
                have hb1 : Below wc.heap.size wc (wr.alloc (.cells #[.int .i64 9223372036854775807] 3)) := hbr.alloc hbr.size _
                have hq1 : t + 1 ≤ maxLen := by unfold maxLen; omega
                have hq2 : (t + 1) * 8 ≤ 140737488355328 := by omega
                go_wp2_with (first
                  | (at_builtin
                     refine wpList_append (by rfl) (.tmp 118) (.tmp 119) 42 (by rfl) int_okD Try.underlying42 hown1 (by rfl) hone (by rfl) (by intro u hu; rw [List.mem_singleton.1 hu]; rfl) hq1 hq2 hb1.size ?_
                     intro v2 w2 hown2 hb2 _ _)
                  | fail)
                go_roundw
                case rel => exact ⟨t + 1, by omega, by simp, by rw [List.replicate_succ', ivs_append]; exact hown2, hb1.trans hb2⟩
                case measure => simp [intOf]; omega
              · have d1 : decide (t ≤ n) = false := decide_eq_false ht
                have d1' : decide ((t : Int) ≤ (n : Int)) = false := decide_eq_false (by omega)
                have htI : ¬ (t : Int) ≤ (n : Int) := by omega
                have htE : t = n + 1 := by omega
                subst htE
                obtain ⟨AL, cL, rfl, hcL, hcLm⟩ := zown_slice (zown_of hown)
                have hdr := hd11.below hbr
                have hdcr := hdc11.below hbr
                have hbwr := hbw11.trans (hbr.mono hbw11.size)
                have hzr := Nat.le_trans hz11 hbr.size
                have hz8r := Nat.le_trans hz811 hbr.size
                clear hd11 hdc11 hbr hz11 hz811 hbw11
                have hFit2 := hK2.fit (show 3002 ≤ 100000 by decide)
                have hFitC := hKC.fit (show 3002 ≤ 100000 by decide)
                have hFitK : Fit KL := by
                  rw [hKL'.out]
                  exact ⟨by rw [List.length_map]; exact hFit2.num, fun x hx => by obtain ⟨y, hy, rfl⟩ := List.mem_map.1 hx; exact hFit2.name y hy, fun x hx => by obtain ⟨y, hy, rfl⟩ := List.mem_map.1 hx; exact hFit2.size y hy⟩
                go_upto_region 19 with (first
                  | (go_at_call_of 20 (Value.pointer (some (Addr.mk g 0 none)))
                     go_must (
                     refine (files_s wr hdr hFit2).mono ?_
                     rintro e w20 ⟨v20, rfl, hown20, hb20⟩
                     obtain ⟨A20, n20, c20, rfl⟩ := own_sliceN hown20
                     have hn20 := own_len3 hown20
                     subst hn20
                     have hall20 := Reads.of_zown (zown_below (zown_of hown) hb20)
                     have hCr2 := crash_sW (mc := cL) w20 (hdr.below hb20) hFit2 hall20 (by unfold maxLen; omega)
                     rw [hAll'.out] at hCr2
                     have hCr3 := hide hCr2
                     clear hCr2))
                  | (go_at_call_of 24 (Value.pointer (some (Addr.mk g 0 none)))
                     go_must (
                     refine hCr3.out.mono ?_
                     rintro e w21 ⟨g21, r21, rfl, hd21, hb21⟩))
                  | (go_at_call_of 20 (Value.pointer (some (Addr.mk g21 0 none)))
                     go_must (
                     refine (files_s w21 hd21 hFitK).mono ?_
                     rintro e w22 ⟨v22, rfl, hown22, hb22⟩
                     obtain ⟨A22, n22, c22, rfl⟩ := own_sliceN hown22
                     have hn22 := (own_len3 hown22).trans hKn.out
                     subst hn22
                     rw [hKn.out] at hown22
                     have hCr4 := crash_sW (ks := []) (M := none) (m := 0) (mc := 0) w22 (((hdcr.below hb20).below hb21).below hb22) hFitC (Reads.none_ _ _ _ _) (by decide)
                     rw [hCag'.out] at hCr4
                     have hCr5 := hide hCr4
                     clear hCr4))
                  | (go_at_call_of 24 (Value.pointer (some (Addr.mk g9 0 none)))
                     go_must (
                     refine hCr5.out.mono ?_
                     rintro e w23 ⟨g23, r23, rfl, hd23, hb23⟩))
                  | (go_at_call_of 20 (Value.pointer (some (Addr.mk g23 0 none)))
                     go_must (
                     refine (files_s w23 hd23 hFitC).mono ?_
                     rintro e w24 ⟨v24, rfl, hown24, hb24⟩
                     obtain ⟨A24, n24, c24, rfl⟩ := own_sliceN hown24
                     have hn24 := own_len3 hown24
                     subst hn24))
                  | fail)
                have hb2224 := hb23.trans (hb24.mono hb23.size)
                have hb2024 := hb21.trans ((hb22.trans (hb2224.mono hb22.size)).mono hb21.size)
                have hbwr24 := hbwr.trans ((hb20.trans (hb2024.mono hb20.size)).mono hbwr.size)
                have hdc24 := hdcr.below (hb20.trans (hb2024.mono hb20.size))
                have hF24 := (Reads.of_own3 hown20).below hb2024
                have hK24 := (Reads.of_own3 hown22).below hb2224
                have hAg24 := Reads.of_own3 hown24
                have hzF : w20.heap.size ≤ w24.heap.size := hb2024.size
                have hzK : w22.heap.size ≤ w24.heap.size := hb2224.size
                clear hb20 hb21 hb22 hb23 hb24 hb2224 hb2024 hdr hdcr hown20 hown22 hown24 hd21 hd23 hown hCr3 hCr5 hall20
                have hll : ((D2.l.length : Int) != (D2.l.length : Int)) = false := bne_self_eq_false _
                go_upto_region 21 with (first
                  | (go_at_call 20
                     go_must (
                     refine (files_s w24 hdc24 hFitC).mono ?_
                     rintro e w25 ⟨v25, rfl, hown25, hb25⟩
                     obtain ⟨A25, n25, c25, rfl⟩ := own_sliceN hown25
                     have hn25 := own_len3 hown25
                     subst hn25
                     have hAg25 := (hAg24.below hb25).more hb25.size
                     have hAg25' := Reads.of_own3 hown25
                     have HNC := hide (show C.length ≤ 1000000 by have := hFitC.num; omega)
                     rw [dvs_afs] at hAg25 hAg25'))
                  | (go_at_call 17
                     go_must (
                     refine (rsame_yes w25 hAg25 hAg25' HNC.out).mono ?_
                     rintro e w26 ⟨rfl, hb26⟩))
                  | fail)
                have hb2426 := hb25.trans (hb26.mono hb25.size)
                have hzF2 := Nat.le_trans hzF hb2426.size
                have hzK2 := Nat.le_trans hzK hb2426.size
                have hF26 := (hF24.below (hb2426.mono hzF)).more hzF2
                have hK26 := (hK24.below (hb2426.mono hzK)).more hzK2
                have hbw26 := hbwr24.trans (hb2426.mono hbwr24.size)
                clear hll hb2426 hF24 hK24 hAg24 hzF hzK hbwr24 hdc24 hb25 hb26 hown25 hAg25 hAg25' hbwr
                go_wp2_with fail
                go_loopw [22] (fun i wr => ∃ t : Nat, t ≤ D2.l.length ∧ i = .int .i64 t ∧ Below w26.heap.size w26 wr) (fun i _ => D2.l.length - (intOf i).toNat)
                case atStart => exact ⟨0, Nat.zero_le _, rfl, Below.refl _ _⟩
                case round =>
                  obtain ⟨t, htn, rfl, hbr⟩ := hrel
                  have hq2 := hK2.num
                  by_cases ht : t < D2.l.length
                  · have htI : (t : Int) < (D2.l.length : Int) := by omega
                    have ht0 : (0 : Int) ≤ (t : Int) := by omega
                    have d1 : decide (t < D2.l.length) = true := decide_eq_true ht
                    have d1' : decide ((t : Int) < (D2.l.length : Int)) = true := decide_eq_true htI
                    have hw2 : IntKind.i64.wrap ((t : Int) + 1) = (t : Int) + 1 := IntWalk.i64_in _ (by omega)
                    obtain ⟨bF, oF, x, rfl, hbF, hxF, kF1, kF2, kF3⟩ := (hF26.below hbr).dat ht
                    obtain ⟨bK, oK, y, rfl, hbK, hyK, kK1, kK2, kK3⟩ := (hK26.below hbr).dat ht
                    rw [hKL'.out, List.getElem?_map, hxF] at hyK
                    obtain ⟨nm, bb, sy⟩ := x
                    injection hyK with hyK
                    subst hyK
                    dsimp only at kF1 kF2 kF3 kK1 kK2 kK3
                    obtain ⟨S, hSe⟩ : ∃ S : ByteArray, S = ⟨bb.toArray⟩ := ⟨_, rfl⟩
                    rw [← hSe] at kF2 kK2
                    have hSz : S.size = bb.length := by rw [hSe]; exact size_of_arr _
                    have hse1 : (nm.toList != nm.toList) = false := bne_self_eq_false _
                    have hse2 : (S.toList != S.toList) = false := bne_self_eq_false _
                    have hse3 : ((bb.length : Int) != (S.size : Int)) = false := by rw [hSz]; exact bne_self_eq_false _
                    have hS24 : ∀ w', Below wr.heap.size wr w' → (w'.cell? ⟨bK, oK + t * 3, none⟩ = some (.string nm) ∧ w'.cell? ⟨bK, oK + t * 3 + 1, none⟩ = some (.string S) ∧ w'.cell? ⟨bK, oK + t * 3 + 2, none⟩ = some (.int .i64 bb.length) ∧ w'.cell? ⟨bF, oF + t * 3, none⟩ = some (.string nm) ∧ w'.cell? ⟨bF, oF + t * 3 + 1, none⟩ = some (.string S)) := fun w' h =>
                      have hz := hbr.size
                      have hbK' : bK < wr.heap.size := by omega
                      have hbF' : bF < wr.heap.size := by omega
                      ⟨(h.cell (p := ⟨bK, oK + t * 3, none⟩) hbK').trans kK1, (h.cell (p := ⟨bK, oK + t * 3 + 1, none⟩) hbK').trans kK2, (h.cell (p := ⟨bK, oK + t * 3 + 2, none⟩) hbK').trans kK3, (h.cell (p := ⟨bF, oF + t * 3, none⟩) hbF').trans kF1, (h.cell (p := ⟨bF, oF + t * 3 + 1, none⟩) hbF').trans kF2⟩
                    clear hSe hSz kF1 kF2 kF3 kK1 kK2 kK3 hxF hF26 hK26 hbF hbK hq2
                    go_upto_region 24 with (fail)
                    refine wp_region_held_drew (S := (fun w' => (w'.cell? ⟨bK, oK + t * 3, none⟩ = some (.string nm) ∧ w'.cell? ⟨bK, oK + t * 3 + 1, none⟩ = some (.string S) ∧ w'.cell? ⟨bK, oK + t * 3 + 2, none⟩ = some (.int .i64 bb.length) ∧ w'.cell? ⟨bF, oF + t * 3, none⟩ = some (.string nm) ∧ w'.cell? ⟨bF, oF + t * 3 + 1, none⟩ = some (.string S)))) (by kernel_rfl) ?_ (fun hHeld => ?_)
                    · exact hS24 _ ((Below.refl _ wr).drew)
                    refine wpAnyH_take (i := 0) (v := ?_) rfl (by kernel_rfl) (by kernel_rfl) (by kernel_rfl) (fun _ _ _ h => h) (Or.inl ⟨by rfl, ?hy⟩) (by assumption) ?_
                    case hy => (intro w hSw; (try dsimp only at hSw); go_simp; all_goals with_reducible rfl)
                    try simp only [Act.put, List.getElem_toArray, List.getElem_cons_succ, List.getElem_cons_zero, List.setIfInBounds_toArray, List.set_cons_zero, List.set_cons_succ]
                    refine wpAnyH_take (i := 1) (v := ?_) rfl (by kernel_rfl) (by kernel_rfl) (by kernel_rfl) (fun _ _ _ h => h) (Or.inl ⟨by rfl, ?hy⟩) (by assumption) ?_
                    case hy => (intro w hSw; (try dsimp only at hSw); go_simp; all_goals with_reducible rfl)
                    try simp only [Act.put, List.getElem_toArray, List.getElem_cons_succ, List.getElem_cons_zero, List.setIfInBounds_toArray, List.set_cons_zero, List.set_cons_succ]
                    refine wpAnyH_take (i := 2) (v := ?_) rfl (by kernel_rfl) (by kernel_rfl) (by kernel_rfl) (fun _ _ _ h => h) (Or.inl ⟨by rfl, ?hy⟩) (by assumption) ?_
                    case hy => (intro w hSw; (try dsimp only at hSw); go_simp; all_goals with_reducible rfl)
                    try simp only [Act.put, List.getElem_toArray, List.getElem_cons_succ, List.getElem_cons_zero, List.setIfInBounds_toArray, List.set_cons_zero, List.set_cons_succ]
                    refine wpAnyH_take (i := 3) (v := ?_) rfl (by kernel_rfl) (by kernel_rfl) (by kernel_rfl) (fun _ _ _ h => h) (Or.inl ⟨by rfl, ?hy⟩) (by assumption) ?_
                    case hy => (intro w hSw; (try dsimp only at hSw); go_simp; all_goals with_reducible rfl)
                    try simp only [Act.put, List.getElem_toArray, List.getElem_cons_succ, List.getElem_cons_zero, List.setIfInBounds_toArray, List.set_cons_zero, List.set_cons_succ]
                    refine wpAnyH_take (i := 4) (v := ?_) rfl (by kernel_rfl) (by kernel_rfl) (by kernel_rfl) (fun _ _ _ h => h) (Or.inl ⟨by rfl, ?hy⟩) (by assumption) ?_
                    case hy => (intro w hSw; (try dsimp only at hSw); go_simp; all_goals with_reducible rfl)
                    try simp only [Act.put, List.getElem_toArray, List.getElem_cons_succ, List.getElem_cons_zero, List.setIfInBounds_toArray, List.set_cons_zero, List.set_cons_succ]
                    refine wpAnyH_take (i := 5) (v := ?_) rfl (by kernel_rfl) (by kernel_rfl) (by kernel_rfl) (fun _ _ _ h => h) (Or.inl ⟨by rfl, ?hy⟩) (by assumption) ?_
                    case hy => (intro w hSw; (try dsimp only at hSw); go_simp; all_goals with_reducible rfl)
                    try simp only [Act.put, List.getElem_toArray, List.getElem_cons_succ, List.getElem_cons_zero, List.setIfInBounds_toArray, List.set_cons_zero, List.set_cons_succ]
                    refine wpAnyH_take (i := 6) (v := ?_) rfl (by kernel_rfl) (by kernel_rfl) (by kernel_rfl) (fun _ _ _ h => h) (Or.inl ⟨by rfl, ?hy⟩) (by assumption) ?_
                    case hy => (intro w hSw; (try dsimp only at hSw); go_simp; all_goals with_reducible rfl)
                    try simp only [Act.put, List.getElem_toArray, List.getElem_cons_succ, List.getElem_cons_zero, List.setIfInBounds_toArray, List.set_cons_zero, List.set_cons_succ]
                    refine wpAnyH_take (i := 7) (v := ?_) rfl (by kernel_rfl) (by kernel_rfl) (by kernel_rfl) (fun _ _ _ h => h) (Or.inl ⟨by rfl, ?hy⟩) (by assumption) ?_
                    case hy => (intro w hSw; (try dsimp only at hSw); go_simp; all_goals with_reducible rfl)
                    try simp only [Act.put, List.getElem_toArray, List.getElem_cons_succ, List.getElem_cons_zero, List.setIfInBounds_toArray, List.set_cons_zero, List.set_cons_succ]
                    refine wpAnyH_take (i := 8) (v := ?_) rfl (by kernel_rfl) (by kernel_rfl) (by kernel_rfl) (fun _ _ _ h => h) (Or.inl ⟨by rfl, ?hy⟩) (by assumption) ?_
                    case hy => (intro w hSw; (try dsimp only at hSw); go_simp; all_goals with_reducible rfl)
                    try simp only [Act.put, List.getElem_toArray, List.getElem_cons_succ, List.getElem_cons_zero, List.setIfInBounds_toArray, List.set_cons_zero, List.set_cons_succ]
                    refine wpAnyH_take (i := 9) (v := ?_) rfl (by kernel_rfl) (by kernel_rfl) (by kernel_rfl) (fun _ _ _ h => h) (Or.inl ⟨by rfl, ?hy⟩) (by assumption) ?_
                    case hy => (intro w hSw; (try dsimp only at hSw); go_simp; all_goals with_reducible rfl)
                    try simp only [Act.put, List.getElem_toArray, List.getElem_cons_succ, List.getElem_cons_zero, List.setIfInBounds_toArray, List.set_cons_zero, List.set_cons_succ]
                    refine wpAnyH_take (i := 10) (v := ?_) rfl (by kernel_rfl) (by kernel_rfl) (by kernel_rfl) (fun _ _ _ h => h) (Or.inl ⟨by rfl, ?hy⟩) (by assumption) ?_
                    case hy => (intro w hSw; (try dsimp only at hSw); go_simp; all_goals with_reducible rfl)
                    try simp only [Act.put, List.getElem_toArray, List.getElem_cons_succ, List.getElem_cons_zero, List.setIfInBounds_toArray, List.set_cons_zero, List.set_cons_succ]
                    refine wpAnyH_take (i := 11) (v := ?_) rfl (by kernel_rfl) (by kernel_rfl) (by kernel_rfl) (fun _ _ _ h => h) (Or.inl ⟨by rfl, ?hy⟩) (by assumption) ?_
                    case hy => (intro w hSw; (try dsimp only at hSw); go_simp; all_goals with_reducible rfl)
                    try simp only [Act.put, List.getElem_toArray, List.getElem_cons_succ, List.getElem_cons_zero, List.setIfInBounds_toArray, List.set_cons_zero, List.set_cons_succ]
                    refine wpAnyH_take (i := 12) (v := ?_) rfl (by kernel_rfl) (by kernel_rfl) (by kernel_rfl) (fun _ _ _ h => h) (Or.inl ⟨by rfl, ?hy⟩) (by assumption) ?_
                    case hy => (intro w hSw; (try dsimp only at hSw); go_simp; all_goals with_reducible rfl)
                    try simp only [Act.put, List.getElem_toArray, List.getElem_cons_succ, List.getElem_cons_zero, List.setIfInBounds_toArray, List.set_cons_zero, List.set_cons_succ]
                    refine wpAnyH_take (i := 13) (v := ?_) rfl (by kernel_rfl) (by kernel_rfl) (by kernel_rfl) (fun _ _ _ h => h) (Or.inl ⟨by rfl, ?hy⟩) (by assumption) ?_
                    case hy => (intro w hSw; (try dsimp only at hSw); go_simp; all_goals with_reducible rfl)
                    try simp only [Act.put, List.getElem_toArray, List.getElem_cons_succ, List.getElem_cons_zero, List.setIfInBounds_toArray, List.set_cons_zero, List.set_cons_succ]
                    refine wpAnyH_take (i := 14) (v := ?_) rfl (by kernel_rfl) (by kernel_rfl) (by kernel_rfl) (fun _ _ _ h => h) (Or.inl ⟨by rfl, ?hy⟩) (by assumption) ?_
                    case hy => (intro w hSw; (try dsimp only at hSw); go_simp; all_goals with_reducible rfl)
                    try simp only [Act.put, List.getElem_toArray, List.getElem_cons_succ, List.getElem_cons_zero, List.setIfInBounds_toArray, List.set_cons_zero, List.set_cons_succ]
                    refine wpAnyH_take (i := 15) (v := ?_) rfl (by kernel_rfl) (by kernel_rfl) (by kernel_rfl) (fun _ _ _ h => h) (Or.inl ⟨by rfl, ?hy⟩) (by assumption) ?_
                    case hy => (intro w hSw; (try dsimp only at hSw); go_simp; all_goals with_reducible rfl)
                    try simp only [Act.put, List.getElem_toArray, List.getElem_cons_succ, List.getElem_cons_zero, List.setIfInBounds_toArray, List.set_cons_zero, List.set_cons_succ]
                    refine wpAnyH_take (i := 16) (v := ?_) rfl (by kernel_rfl) (by kernel_rfl) (by kernel_rfl) (fun _ _ _ h => h) (Or.inl ⟨by rfl, ?hy⟩) (by assumption) ?_
                    case hy => (intro w hSw; (try dsimp only at hSw); go_simp; all_goals with_reducible rfl)
                    try simp only [Act.put, List.getElem_toArray, List.getElem_cons_succ, List.getElem_cons_zero, List.setIfInBounds_toArray, List.set_cons_zero, List.set_cons_succ]
                    refine wpAnyH_take (i := 17) (v := ?_) rfl (by kernel_rfl) (by kernel_rfl) (by kernel_rfl) (fun _ _ _ h => h) (Or.inl ⟨by rfl, ?hy⟩) (by assumption) ?_
                    case hy => (intro w hSw; (try dsimp only at hSw); go_simp; all_goals with_reducible rfl)
                    try simp only [Act.put, List.getElem_toArray, List.getElem_cons_succ, List.getElem_cons_zero, List.setIfInBounds_toArray, List.set_cons_zero, List.set_cons_succ]
                    refine wpAnyH_take (i := 18) (v := ?_) rfl (by kernel_rfl) (by kernel_rfl) (by kernel_rfl) (fun _ _ _ h => h) (Or.inl ⟨by rfl, ?hy⟩) (by assumption) ?_
                    case hy => (intro w hSw; (try dsimp only at hSw); go_simp; all_goals with_reducible rfl)
                    try simp only [Act.put, List.getElem_toArray, List.getElem_cons_succ, List.getElem_cons_zero, List.setIfInBounds_toArray, List.set_cons_zero, List.set_cons_succ]
                    refine wpAnyH_take (i := 19) (v := ?_) rfl (by kernel_rfl) (by kernel_rfl) (by kernel_rfl) (fun _ _ _ h => h) (Or.inl ⟨by rfl, ?hy⟩) (by assumption) ?_
                    case hy => (intro w hSw; (try dsimp only at hSw); go_simp; all_goals with_reducible rfl)
                    try simp only [Act.put, List.getElem_toArray, List.getElem_cons_succ, List.getElem_cons_zero, List.setIfInBounds_toArray, List.set_cons_zero, List.set_cons_succ]
                    refine wpAnyH_take (i := 20) (v := ?_) rfl (by kernel_rfl) (by kernel_rfl) (by kernel_rfl) (fun _ _ _ h => h) (Or.inl ⟨by rfl, ?hy⟩) (by assumption) ?_
                    case hy => (intro w hSw; (try dsimp only at hSw); go_simp; all_goals with_reducible rfl)
                    try simp only [Act.put, List.getElem_toArray, List.getElem_cons_succ, List.getElem_cons_zero, List.setIfInBounds_toArray, List.set_cons_zero, List.set_cons_succ]
                    refine wpAnyH_take (i := 21) (v := ?_) rfl (by kernel_rfl) (by kernel_rfl) (by kernel_rfl) (fun _ _ _ h => h) (Or.inl ⟨by rfl, ?hy⟩) (by assumption) ?_
                    case hy => (intro w hSw; (try dsimp only at hSw); go_simp; all_goals with_reducible rfl)
                    try simp only [Act.put, List.getElem_toArray, List.getElem_cons_succ, List.getElem_cons_zero, List.setIfInBounds_toArray, List.set_cons_zero, List.set_cons_succ]
                    refine wpAnyH_take (i := 22) (v := ?_) rfl (by kernel_rfl) (by kernel_rfl) (by kernel_rfl) (fun _ _ _ h => h) (Or.inl ⟨by rfl, ?hy⟩) (by assumption) ?_
                    case hy => (intro w hSw; (try dsimp only at hSw); go_simp; all_goals with_reducible rfl)
                    try simp only [Act.put, List.getElem_toArray, List.getElem_cons_succ, List.getElem_cons_zero, List.setIfInBounds_toArray, List.set_cons_zero, List.set_cons_succ]
                    refine wpAnyH_take (i := 23) (v := ?_) rfl (by kernel_rfl) (by kernel_rfl) (by kernel_rfl) (fun _ _ _ h => h) (Or.inl ⟨by rfl, ?hy⟩) (by assumption) ?_
                    case hy => (intro w hSw; (try dsimp only at hSw); go_simp; all_goals with_reducible rfl)
                    try simp only [Act.put, List.getElem_toArray, List.getElem_cons_succ, List.getElem_cons_zero, List.setIfInBounds_toArray, List.set_cons_zero, List.set_cons_succ]
                    refine wpAnyH_take (i := 24) (v := ?_) rfl (by kernel_rfl) (by kernel_rfl) (by kernel_rfl) (fun _ _ _ h => h) (Or.inl ⟨by rfl, ?hy⟩) (by assumption) ?_
                    case hy => (intro w hSw; (try dsimp only at hSw); go_simp; all_goals with_reducible rfl)
                    try simp only [Act.put, List.getElem_toArray, List.getElem_cons_succ, List.getElem_cons_zero, List.setIfInBounds_toArray, List.set_cons_zero, List.set_cons_succ]
                    refine wpAnyH_take (i := 25) (v := ?_) rfl (by kernel_rfl) (by kernel_rfl) (by kernel_rfl) (fun _ _ _ h => h) (Or.inl ⟨by rfl, ?hy⟩) (by assumption) ?_
                    case hy => (intro w hSw; (try dsimp only at hSw); go_simp; all_goals with_reducible rfl)
                    try simp only [Act.put, List.getElem_toArray, List.getElem_cons_succ, List.getElem_cons_zero, List.setIfInBounds_toArray, List.set_cons_zero, List.set_cons_succ]
                    refine wpAnyH_take (i := 26) (v := ?_) rfl (by kernel_rfl) (by kernel_rfl) (by kernel_rfl) (fun _ _ _ h => h) (Or.inl ⟨by rfl, ?hy⟩) (by assumption) ?_
                    case hy => (intro w hSw; (try dsimp only at hSw); go_simp; all_goals with_reducible rfl)
                    try simp only [Act.put, List.getElem_toArray, List.getElem_cons_succ, List.getElem_cons_zero, List.setIfInBounds_toArray, List.set_cons_zero, List.set_cons_succ]
                    refine wpAnyH_take (i := 27) (v := ?_) rfl (by kernel_rfl) (by kernel_rfl) (by kernel_rfl) (fun _ _ _ h => h) (Or.inl ⟨by rfl, ?hy⟩) (by assumption) ?_
                    case hy => (intro w hSw; (try dsimp only at hSw); go_simp; all_goals with_reducible rfl)
                    try simp only [Act.put, List.getElem_toArray, List.getElem_cons_succ, List.getElem_cons_zero, List.setIfInBounds_toArray, List.set_cons_zero, List.set_cons_succ]
                    refine wpAnyH_take (i := 28) (v := ?_) rfl (by kernel_rfl) (by kernel_rfl) (by kernel_rfl) (fun _ _ _ h => h) (Or.inl ⟨by rfl, ?hy⟩) (by assumption) ?_
                    case hy => (intro w hSw; (try dsimp only at hSw); go_simp; all_goals with_reducible rfl)
                    try simp only [Act.put, List.getElem_toArray, List.getElem_cons_succ, List.getElem_cons_zero, List.setIfInBounds_toArray, List.set_cons_zero, List.set_cons_succ]
                    refine wpAnyH_take (i := 29) (v := ?_) rfl (by kernel_rfl) (by kernel_rfl) (by kernel_rfl) (fun _ _ _ h => h) (Or.inl ⟨by rfl, ?hy⟩) (by assumption) ?_
                    case hy => (intro w hSw; (try dsimp only at hSw); go_simp; all_goals with_reducible rfl)
                    try simp only [Act.put, List.getElem_toArray, List.getElem_cons_succ, List.getElem_cons_zero, List.setIfInBounds_toArray, List.set_cons_zero, List.set_cons_succ]
                    refine wpAnyH_take (i := 30) (v := ?_) rfl (by kernel_rfl) (by kernel_rfl) (by kernel_rfl) (fun _ _ _ h => h) (Or.inl ⟨by rfl, ?hy⟩) (by assumption) ?_
                    case hy => (intro w hSw; (try dsimp only at hSw); go_simp; all_goals with_reducible rfl)
                    try simp only [Act.put, List.getElem_toArray, List.getElem_cons_succ, List.getElem_cons_zero, List.setIfInBounds_toArray, List.set_cons_zero, List.set_cons_succ]
                    refine wpAnyH_take (i := 31) (v := ?_) rfl (by kernel_rfl) (by kernel_rfl) (by kernel_rfl) (fun _ _ _ h => h) (Or.inl ⟨by rfl, ?hy⟩) (by assumption) ?_
                    case hy => (intro w hSw; (try dsimp only at hSw); go_simp; all_goals with_reducible rfl)
                    try simp only [Act.put, List.getElem_toArray, List.getElem_cons_succ, List.getElem_cons_zero, List.setIfInBounds_toArray, List.set_cons_zero, List.set_cons_succ]
                    refine wpAnyH_take (i := 32) (v := ?_) rfl (by kernel_rfl) (by kernel_rfl) (by kernel_rfl) (fun _ _ _ h => h) (Or.inl ⟨by rfl, ?hy⟩) (by assumption) ?_
                    case hy => (intro w hSw; (try dsimp only at hSw); go_simp; all_goals with_reducible rfl)
                    try simp only [Act.put, List.getElem_toArray, List.getElem_cons_succ, List.getElem_cons_zero, List.setIfInBounds_toArray, List.set_cons_zero, List.set_cons_succ]
                    refine wpAnyH_take (i := 33) (v := ?_) rfl (by kernel_rfl) (by kernel_rfl) (by kernel_rfl) (fun _ _ _ h => h) (Or.inl ⟨by rfl, ?hy⟩) (by assumption) ?_
                    case hy => (intro w hSw; (try dsimp only at hSw); go_simp; all_goals with_reducible rfl)
                    try simp only [Act.put, List.getElem_toArray, List.getElem_cons_succ, List.getElem_cons_zero, List.setIfInBounds_toArray, List.set_cons_zero, List.set_cons_succ]
                    refine wpAnyH_take (i := 34) (v := ?_) rfl (by kernel_rfl) (by kernel_rfl) (by kernel_rfl) (fun _ _ _ h => h) (Or.inl ⟨by rfl, ?hy⟩) (by assumption) ?_
                    case hy => (intro w hSw; (try dsimp only at hSw); go_simp; all_goals with_reducible rfl)
                    try simp only [Act.put, List.getElem_toArray, List.getElem_cons_succ, List.getElem_cons_zero, List.setIfInBounds_toArray, List.set_cons_zero, List.set_cons_succ]
                    refine wpAnyH_take (i := 35) (v := ?_) rfl (by kernel_rfl) (by kernel_rfl) (by kernel_rfl) (fun _ _ _ h => h) (Or.inl ⟨by rfl, ?hy⟩) (by assumption) ?_
                    case hy => (intro w hSw; (try dsimp only at hSw); go_simp; all_goals with_reducible rfl)
                    try simp only [Act.put, List.getElem_toArray, List.getElem_cons_succ, List.getElem_cons_zero, List.setIfInBounds_toArray, List.set_cons_zero, List.set_cons_succ]
                    refine wpAnyH_take (i := 36) (v := ?_) rfl (by kernel_rfl) (by kernel_rfl) (by kernel_rfl) (fun _ _ _ h => h) (Or.inl ⟨by rfl, ?hy⟩) (by assumption) ?_
                    case hy => (intro w hSw; (try dsimp only at hSw); go_simp; all_goals with_reducible rfl)
                    try simp only [Act.put, List.getElem_toArray, List.getElem_cons_succ, List.getElem_cons_zero, List.setIfInBounds_toArray, List.set_cons_zero, List.set_cons_succ]
                    refine wpAnyH_take (i := 37) (v := ?_) rfl (by kernel_rfl) (by kernel_rfl) (by kernel_rfl) (fun _ _ _ h => h) (Or.inl ⟨by rfl, ?hy⟩) (by assumption) ?_
                    case hy => (intro w hSw; (try dsimp only at hSw); go_simp; all_goals with_reducible rfl)
                    try simp only [Act.put, List.getElem_toArray, List.getElem_cons_succ, List.getElem_cons_zero, List.setIfInBounds_toArray, List.set_cons_zero, List.set_cons_succ]
                    refine wpAnyH_done (by kernel_rfl) ?_ _
                    go_simp
                    go_wp2_with fail
                    go_roundw
                    case rel => exact ⟨t + 1, by omega, by simp, hbr.drew⟩
                    case measure => simp [intOf]; omega
                  · have htI : ¬ (t : Int) < (D2.l.length : Int) := by omega
                    have d1 : decide (t < D2.l.length) = false := decide_eq_false ht
                    have d1' : decide ((t : Int) < (D2.l.length : Int)) = false := decide_eq_false htI
                    clear hF26 hK26 hq2
                    go_wp2_with (first
                      | (go_at_call 12; go_must (refine (works_any _).mono ?_; rintro e w27 ⟨rfl, hb27⟩))
                      | fail)
                    go_ret
                    exact ⟨rfl, hbw26.trans ((hbr.trans (hb27.mono hbr.size)).mono hbw26.size)⟩
        · obtain ⟨Z, hZ⟩ : ∃ Z, Z = chkF l := ⟨_, rfl⟩
          have hZ0 : (Z != 0) = true := by rw [hZ]; simpa using hck
          have hFr := HFr.out
          rw [← hZ] at hFr hck
          have HFr := hide hFr
          have hen := fun w => run_eql_nilD w
          clear hFr hZ
          go_wp2_with (first
            | (go_at_call 14
               go_must (
               refine HFr.out.mono ?_
               rintro e w5 ⟨hor, hb5⟩
               have hor2 : e = .returned (.tuple #[.pointer none, .int .i64 Z]) := by
                 rcases hor with ⟨_, h⟩ | ⟨h0, _⟩
                 · exact h
                 · exact absurd h0 hck
               subst hor2))
            | (go_at_call 16; refine (num_any _ _).mono ?_; rintro e w60 ⟨rfl, rfl⟩)
            | (go_at_call 12; go_must (refine (works_any _).mono ?_; rintro e w2 ⟨rfl, hb2⟩))
            | fail)
          go_ret
          exact ⟨rfl, (hb1.trans (hb5.mono hz1)).trans (hb2.mono (Nat.le_trans hz1 hb5.size))⟩
end Go.Proofs.Ytaaaljpnhfmbpaa
