/- The walk of the law FramesRows, its first half: the frames of the rows one behind the other. Conditions: no text takes more than the form's reach. -/
import Derived.Test.YtbpodmgogokpiaaFrZ
import Derived.Deep.DeepCutAuto
namespace Go.Proofs.Ytbpodmgogokpiaa
open Go.RowKit
set_option linter.unusedVariables false

set_option maxHeartbeats 8000000 in
set_option maxRecDepth 100000 in
theorem framesRows_any (A : Option Addr) (n c : Nat) (vs : List Value) (L : List (List ByteArray)) (A1 : Option Addr) (n1 c1 : Nat) (l1 : List ByteArray) (cut : Int) (A3 : Option Addr) (n3 c3 : Nat) (b : List UInt8) (w : World)
    (hr : Rows2 w w.heap.size A n vs L) (hn : n ≤ maxLen) (hs : ∀ l ∈ L, ∀ s ∈ l, s.size ≤ 140737488351232)
    (hr1 : Reads w w.heap.size 1 A1 n1 (svs l1)) (hc1 : n1 ≤ c1) (hcm1 : c1 ≤ maxLen) (hs1 : ∀ s ∈ l1, s.size ≤ 140737488351232)
    (hr3 : Reads w w.heap.size 1 A3 n3 (bvs b)) (hc3 : n3 ≤ c3) (hcm3 : c3 ≤ maxLen) :
    Calls Try.prog 8 #[.slice A n c, .slice A1 n1 c1, .int .i64 cut, .slice A3 n3 c3] w fun e w' => e = .returned (.bool true) ∧ Below w.heap.size w w' := by
  have h1 := hide (all_any A n c vs L w hr hn hs)
  have hfw := hide (few_any A1 n1 c1 l1 w hr1 (by omega) hs1)
  have hl := hide hr.num
  go_enter Try.func8, Try.ntmps8
  go_wp2_with fail
  go_at_call 22
  refine h1.out.mono ?_
  rintro e w1 ⟨⟨x1, rfl, hx1⟩, rfl⟩
  cases x1 with
  | false =>
    clear hx1
    go_wp2_with (first
      | (go_at_call 11; refine (works_any _).mono ?_; rintro e w1 ⟨rfl, hb1⟩)
      | fail)
    go_ret
    exact ⟨rfl, hb1⟩
  | true =>
    obtain ⟨hn2, hf⟩ := hx1 rfl
    by_cases hf1 : accT l1 l1.length ≤ 3000
    case neg =>
      have hd : decide (accT l1 l1.length ≤ 3000) = false := by simpa using hf1
      go_wp2_with (first
        | (go_at_call 10; refine hfw.out.mono ?_; rintro e w1 ⟨hp, rfl⟩; unfold FewPost at hp; subst hp; rw [hd])
        | (go_at_call 11; refine (works_any _).mono ?_; rintro e w1 ⟨rfl, hb1⟩)
        | fail)
      go_ret
      exact ⟨rfl, hb1⟩
    case pos =>
      have hd : decide (accT l1 l1.length ≤ 3000) = true := by simpa using hf1
      by_cases hb3 : 3000 < n3
      · have hb3I : (3000 : Int) < (n3 : Int) := by omega
        go_wp2_with (first
          | (go_at_call 10; refine hfw.out.mono ?_; rintro e w1 ⟨hp, rfl⟩; unfold FewPost at hp; subst hp; rw [hd])
          | (go_at_call 11; refine (works_any _).mono ?_; rintro e w1 ⟨rfl, hb1⟩)
          | fail)
        go_ret
        exact ⟨rfl, hb1⟩
      · have hb3I : ¬ (3000 : Int) < (n3 : Int) := by omega
        have HFJ := hide (few_joined hf)
        have HF := hide hf
        clear hx1 hf h1
        go_wp2_with (first
          | (go_at_call 10; refine hfw.out.mono ?_; rintro e w1 ⟨hp, rfl⟩; unfold FewPost at hp; subst hp; rw [hd])
          | fail)
        clear hfw hd
        go_loopw [9, 10, 11, 12] (fun v i x y wr => ∃ t : Nat, t ≤ n ∧ i = .int .i64 t ∧ wr.ownsRow w.heap.size 5 1 v (joined L t).length (bvs (joined L t)) ∧ Below w.heap.size w wr) (fun _ i _ _ _ => n - (intOf i).toNat)
        case atStart => exact ⟨0, by omega, rfl, World.ownsRow_nil _ _ _ _, Below.refl _ _⟩
        case round =>
          obtain ⟨t, ht, rfl, how, hbw⟩ := hrel
          by_cases htn : t < n
          · have htI : (t : Int) < (n : Int) := by omega
            have ht0 : (0 : Int) ≤ (t : Int) := by omega
            obtain ⟨b2, o2, l, A2, n2, c2, rfl, hb2, hls, hc2, hq, hn22, hc22⟩ := (hr.below hbw).at2 htn
            have hls' := hide hls
            have hss := hs l (List.mem_of_getElem? hls)
            have HJ := hide (joined_succ hls)
            have hJL := HFJ.out t
            have hf2 := HF.out t l hls
            have HSZ := hide (few_size hf2)
            have hfl := few_len hf2
            have hw2 : IntKind.i64.wrap ((t : Int) + 1) = (t : Int) + 1 := IntWalk.i64_in _ (by omega)
            obtain ⟨Av, cv, rfl, hcv1, hcv2⟩ := own_slice how
            clear hls hf2
            go_wp2_with (first
              | (go_at_call 12
                 go_must (
                 refine (put_any A2 n2 c2 l wr (hq.more hbw.size) hss HSZ.out).mono ?_
                 rintro e w3 ⟨v3, rfl, ho3, hb3⟩
                 obtain ⟨A3', c3', rfl, hc31, hc32⟩ := own_slice ho3
                 have how3 := own_below how hb3
                 have hbw3 := hbw.trans (hb3.mono hbw.size)))
              | (go_at_call 14; refine (num_any 0 _).mono ?_; rintro e w2' ⟨rfl, rfl⟩)
              | (refine wpList_append (o := ⟨some 57, _, _, _, _, _⟩) rfl (.tmp 55) (.tmp 56) 25 rfl u8_ok Try.underlying25 how3 rfl (Reads.of_own ho3) rfl (bvs_one _) (by unfold maxLen; omega) (by omega) hbw3.size ?_
                 intro v5 w5 hown5 hb5 _ _
                 have hbw5 := hbw3.trans hb5)
              | fail)
            go_roundw
            case rel =>
              refine ⟨t + 1, by omega, by simp, ?_, hbw5⟩
              rw [HJ.out, List.length_append, bvs_append]
              exact hown5
            case measure => simp [intOf]; omega
          · have htI : ¬ (t : Int) < (n : Int) := by omega
            obtain rfl : t = n := by omega
            obtain ⟨A9, c9, rfl, hc91, hc92⟩ := own_slice how
            have hJL := HFJ.out t
            have HSZ := hide (few_size hf1)
            have hfl := few_len hf1
            have hfg := frame_ge l1
            obtain ⟨hq1, hq2, hq3⟩ := few_body hf1
            have HRC : Hid (∀ k, k < (frameF l1).length → scanF ((frameF l1).take k) = ([], 0)) := fun k hk => scanF_no (readF_cut l1 k hk hq2)
            have HSF : Hid (∀ T, scanF T = ([], 0) → scanF (joined L t ++ T) = (L, (joined L t).length)) := fun T hT => by
              have e : joined L t = (L.map frameF).flatten := by unfold joined; rw [List.take_of_length_le (by rw [hl.out]; exact Nat.le_refl _)]
              rw [e]
              exact scanF_frames L T (fun l hl' => by
                obtain ⟨j, hj⟩ := List.mem_iff_getElem?.1 hl'
                exact few_body (HF.out j l hj)) hT
            clear hq1 hq2 hq3 hf1
            generalize hF : frameF l1 = F at *
            generalize joined L t = J at *
            have HPUT := hide (put_any A1 n1 c1 l1 wr ((hr1.below hbw).more hbw.size) hs1 HSZ.out)
            rw [hF] at HPUT
            clear hF
            go_upto_region 13 with (first
              | (go_at_call 12
                 go_must (
                 refine HPUT.out.mono ?_
                 rintro e w3 ⟨v3, rfl, ho3, hb3⟩
                 obtain ⟨g3, c3', rfl, hc31, hc32, hg31, hg32⟩ := own_form ho3 (by omega)
                 have how3 := own_below how hb3
                 have hbw3 := hbw.trans (hb3.mono hbw.size)))
              | fail)
            clear HPUT how hbw
            go_cut [77] (fun s77 wx => s77 = .bool (decide (0 ≤ cut ∧ cut < (F.length : Int))) ∧ wx = w3)
            case first =>
              by_cases h0 : 0 ≤ cut
              · by_cases h1 : cut < (F.length : Int)
                all_goals
                  go_wp2_with (first
                    | (go_at_call 14; refine (num_any 0 _).mono ?_; rintro e w2' ⟨rfl, rfl⟩)
                    | fail)
                  go_meet
                  case rel => exact ⟨by simp [h0, h1], rfl⟩
              · go_wp2_with (first
                  | (go_at_call 14; refine (num_any 0 _).mono ?_; rintro e w2' ⟨rfl, rfl⟩)
                  | fail)
                go_meet
                case rel => exact ⟨by rw [show decide (0 ≤ cut ∧ cut < (F.length : Int)) = false from by simp; omega], rfl⟩
            case rest =>
              obtain ⟨rfl, rfl⟩ := hcut
              go_upto_if 77 with (fail)
              go_cut [9] (fun s9 wx => ∃ (A4 : Option Addr) (c4 : Nat) (T : List UInt8), s9 = .slice A4 (J ++ T).length c4 ∧ wx.ownsRow w.heap.size 5 1 (.slice A4 (J ++ T).length c4) (J ++ T).length (bvs (J ++ T)) ∧ (J ++ T).length ≤ c4 ∧ c4 ≤ maxLen ∧ scanF (J ++ T) = (L, J.length) ∧ T.length ≤ 3012 ∧ Below w.heap.size w wx)
              case first =>
                by_cases hcut : 0 ≤ cut ∧ cut < F.length
                case pos =>
                  obtain ⟨k, rfl⟩ := Int.eq_ofNat_of_zero_le hcut.1
                  have hk : k < F.length := by omega
                  have hcg : (k : Int) ≤ (c3' : Int) := by omega
                  have hrk : Reads wc wc.heap.size 1 (some ⟨g3, 0, none⟩) k (bvs (F.take k)) := (Reads.of_own ho3).front (m := k) (by omega)
                  have hd : decide (0 ≤ (k : Int) ∧ (k : Int) < (F.length : Int)) = true := by simpa using hcut
                  rw [hd]
                  clear hd hcut
                  go_wp2_with (first
                    | (refine wpList_append (o := ⟨some 82, _, _, _, _, _⟩) rfl (.tmp 78) (.tmp 81) 25 rfl u8_ok Try.underlying25 how3 rfl hrk rfl (bvs_one _) (by unfold maxLen; omega) (by omega) hbw3.size ?_
                       intro v5 w5 hown5 hb5 _ _
                       rw [← bvs_append] at hown5
                       have hbw5 := hbw3.trans hb5)
                    | fail)
                  go_meet
                  case rel =>
                    obtain ⟨A4, c4, rfl, hc41, hc42⟩ := own_slice hown5
                    have hkl : (F.take k).length = k := by rw [List.length_take]; omega
                    have hJk : (J ++ F.take k).length = J.length + k := by rw [List.length_append, hkl]
                    exact ⟨A4, c4, F.take k, by rw [hJk], by rw [hJk]; exact hown5, by rw [hJk]; exact hc41, hc42, HSF.out _ (HRC.out k hk), by omega, hbw5⟩
                case neg =>
                  have hd : decide (0 ≤ cut ∧ cut < (F.length : Int)) = false := by simpa using hcut
                  rw [hd]
                  clear hd hcut
                  go_wp2_with fail
                  go_meet
                  case rel => exact ⟨A9, c9, [], by rw [List.append_nil], by rw [List.append_nil]; exact how3, by rw [List.append_nil]; exact hc91, hc92, HSF.out [] scanF_nil, by simp, hbw3⟩
              case rest =>
                obtain ⟨A4, c4, T, rfl, ho4, hc41, hc42, hsc, hTl, hbc⟩ := hcut
                have hJT : (J ++ T).length ≤ 760000 := by rw [List.length_append]; omega
                have HLL : Hid (∀ l ∈ L, l.length ≤ 200000) := fun l hl' => by
                  obtain ⟨j, hj⟩ := List.mem_iff_getElem?.1 hl'
                  have := (few_facts (HF.out j l hj)).1
                  omega
                generalize J ++ T = BT at *
                have HSC := hide hsc
                have hbl := hr3.blen
                have hb3000 : b.length ≤ 3000 := by omega
                have HSM := hide (fun l (h : l ∈ (scanF b).1) => scan_small hb3000 h)
                have HAG := hide (again_scan b)
                have hKB := (scan_back b.length b (Nat.le_refl _)).2
                have HJB := hide (fun t => again_le hb3000 t)
                have HSN := hide (scan_num hb3000)
                have HSCB := hide (fun w7 (h : Reads w7 w7.heap.size 1 A3 n3 (bvs b)) => scan_any A3 n3 c3 b w7 h hc3 hcm3 (by omega))
                rw [hbl] at hKB
                generalize (scanF b).1 = M at *
                generalize (scanF b).2 = k at *
                clear hsc hbl hb3000 HRC HSF HSZ HFJ HF ho3 how3 hb3 hbw3
                go_upto_region 18 with (first
                  | (go_at_call 19
                     go_must (
                     refine (scan_any A4 BT.length c4 BT wc (Reads.of_own ho4) hc41 hc42 (by omega)).mono ?_
                     rintro e w5 ⟨v5, ps, rfl, hps, hlo5, hb5⟩
                     rw [HSC.out] at hps
                     rw [HSC.out]
                     obtain ⟨A5, c5, rfl, hc51, hc52, hr5⟩ := hlo5.rows2
                     dsimp only at hps
                     rw [hps] at hr5
                     have hpl : ps.length = t := by rw [← hl.out, ← hps, List.length_map]
                     rw [hpl] at hr5 hc51
                     rw [hpl]
                     have hbw5 := hbc.trans (hb5.mono hbc.size)
                     have hrw5 := hr.below hbw5
                     clear hps hpl))
                  | (go_at_call 21
                     go_must (
                     refine (rsame_any A5 t c5 A t c (lvs ps) vs L L w5 hr5 hrw5 (by omega) HLL.out).mono ?_
                     rintro e w6 ⟨rfl, m6, hw6⟩
                     rw [show decide (L = L) = true from by simp]
                     have hb6 : Below w5.heap.size w5 w6 := by rw [hw6]; exact below_drewN (Below.refl _ _) _
                     have hbw6 := hbw5.trans (hb6.mono hbw5.size)
                     clear hw6 hb6))
                  | fail)
                clear HSC HLL ho4 hTl
                have hnm : M.length ≤ maxLen := by have := HSN.out; unfold maxLen; omega
                go_wp2_with (first
                  | (go_at_call 19
                     go_must (
                     refine (HSCB.out w6 ((hr3.below hbw6).more hbw6.size)).mono ?_
                     rintro e w7 ⟨v7, qs, rfl, hqs, hlo7, hb7⟩
                     obtain ⟨A7, c7, rfl, hc71, hc72, hr7⟩ := hlo7.rows2
                     rw [hqs] at hr7
                     have hqn := hr7.num
                     have hbw7 := hbw6.trans (hb7.mono hbw6.size)
                     generalize lvs qs = us at hr7
                     generalize qs.length = q at *
                     clear hqs hlo7 hb7 HSCB))
                  | fail)
                have HQN := hide hqn
                clear hqn
                go_loopw [20, 21, 22, 23] (fun v i x y wr => ∃ s : Nat, s ≤ q ∧ i = .int .i64 s ∧ wr.ownsRow w7.heap.size 5 1 v (joined M s).length (bvs (joined M s)) ∧ Below w7.heap.size w7 wr) (fun _ i _ _ _ => q - (intOf i).toNat)
                case atStart => exact ⟨0, by omega, rfl, World.ownsRow_nil _ _ _ _, Below.refl _ _⟩
                case round =>
                  obtain ⟨s, hsq, rfl, how, hbx⟩ := hrel
                  have hJL := HJB.out s
                  have hq3 : s ≤ 3000 := by have := HSN.out; have := HQN.out; omega
                  by_cases hsq2 : s < q
                  · have hsI : (s : Int) < (q : Int) := by omega
                    have hs0 : (0 : Int) ≤ (s : Int) := by omega
                    obtain ⟨b2, o2, l, A2, n2, c2, rfl, hb2, hls, hc2, hq, hn22, hc22⟩ := (hr7.below hbx).at2 hsq2
                    have hls' := hide hls
                    have hfew := HSM.out l (List.mem_of_getElem? hls)
                    have hss : ∀ x ∈ l, x.size ≤ 140737488351232 := fun x hx => by have := (few_facts hfew).2 x hx; omega
                    have HJ := hide (joined_succ hls)
                    have HSZ := hide (few_size hfew)
                    have hfl := few_len hfew
                    have hw2 : IntKind.i64.wrap ((s : Int) + 1) = (s : Int) + 1 := IntWalk.i64_in _ (by omega)
                    obtain ⟨Av, cv, rfl, hcv1, hcv2⟩ := own_slice how
                    clear hls hfew
                    go_wp2_with (first
                      | (go_at_call 12
                         go_must (
                         refine (put_any A2 n2 c2 l wr (hq.more hbx.size) hss HSZ.out).mono ?_
                         rintro e w8 ⟨v8, rfl, ho8, hb8⟩
                         obtain ⟨A8, c8, rfl, hc81, hc82⟩ := own_slice ho8
                         have how8 := own_below how hb8
                         have hbx8 := hbx.trans (hb8.mono hbx.size)))
                      | (go_at_call 14; refine (num_any 0 _).mono ?_; rintro e w2' ⟨rfl, rfl⟩)
                      | (refine wpList_append (o := ⟨some 121, _, _, _, _, _⟩) rfl (.tmp 119) (.tmp 120) 25 rfl u8_ok Try.underlying25 how8 rfl (Reads.of_own ho8) rfl (bvs_one _) (by unfold maxLen; omega) (by omega) hbx8.size ?_
                         intro v9 w9 hown9 hb9 _ _
                         have hbx9 := hbx8.trans hb9)
                      | fail)
                    go_roundw
                    case rel =>
                      refine ⟨s + 1, by omega, by simp, ?_, hbx9⟩
                      rw [HJ.out, List.length_append, bvs_append]
                      exact hown9
                    case measure => simp [intOf]; omega
                  · have hsI : ¬ (s : Int) < (q : Int) := by omega
                    obtain rfl : s = q := by omega
                    rw [← HQN.out] at how
                    rw [HAG.out] at how
                    have hbX := hbw7.trans (hbx.mono hbw7.size)
                    obtain ⟨Av, cv, rfl, hcv1, hcv2⟩ := own_slice how
                    have hk0 : (0 : Int) ≤ (k : Int) := by omega
                    have hkn : (k : Int) ≤ (n3 : Int) := by omega
                    have hkc : (k : Int) ≤ (c3 : Int) := by omega
                    have hrb : Reads wr.drew wr.heap.size 1 A3 k (bvs (b.take k)) := ((hr3.below hbX).more hbX.size).front (by omega)
                    have hra : Reads wr.drew wr.heap.size 1 Av (b.take k).length (bvs (b.take k)) := Reads.of_own how
                    have hx1 := run_bytes_str (P := Try.prog) 25 9 5 Try.underlying25 Try.underlying5 Try.underlying9 hra cv
                    have hx2 := run_bytes_str (P := Try.prog) 25 9 5 Try.underlying25 Try.underlying5 Try.underlying9 hrb c3
                    have hlk : (b.take k).length = k := by rw [List.length_take, hr3.blen]; omega
                    rw [hlk] at hx1 hcv1 ⊢
                    rw [hlk] at hra
                    generalize hSK : (⟨(b.take k).toArray⟩ : ByteArray) = SK at *
                    have HSK := hide hSK
                    clear hSK hlk how HAG hJL HJB
                    go_wp2_with fail
                    have hbXd : Below w.heap.size w wr.drew := hbX.drew
                    have hd1 : decide ((0 : Int) ≤ (k : Int)) = true := by simp
                    have hd2 : decide ((k : Int) ≤ (n3 : Int)) = true := by simpa using hkn
                    clear hnm hcv1 hcv2 hbX hbx
                    go_region_held3 (fun w' => (convert 25 9 (.slice Av k cv)).run Try.prog w' = .ok (.string SK) w' ∧ (convert 25 9 (.slice A3 k c3)).run Try.prog w' = .ok (.string SK) w') (first | go_keep | exact ⟨hx1, hx2⟩ | exact ⟨hy1, hy2⟩) (first
                      | (go_at_call 11
                         refine (works_any _).mono ?_; rintro e w10 ⟨rfl, hb10⟩
                         have hy1 := run_bytes_str (P := Try.prog) 25 9 5 Try.underlying25 Try.underlying5 Try.underlying9 (hra.below hb10) cv
                         have hy2 := run_bytes_str (P := Try.prog) 25 9 5 Try.underlying25 Try.underlying5 Try.underlying9 (hrb.below hb10) c3
                         rw [HSK.out] at hy1 hy2)
                      | fail)
                    all_goals
                      go_wp2_with fail
                      go_ret
                      exact ⟨rfl, hbXd.trans (hb10.mono hbXd.size)⟩
end Go.Proofs.Ytbpodmgogokpiaa
