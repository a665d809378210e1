/- The walk of the law FramesBack: it returns true at every input. Conditions: no text takes more than the form's reach. -/
import Derived.Test.YtbpodmgogokpiaaFrO
import Derived.Test.YtbpodmgogokpiaaFrQ
import Derived.Test.YtbpodmgogokpiaaFrH
import Derived.Deep.RegionLaw
import Derived.Deep.QuietTactic
import Derived.BigQuiet
import Derived.Deep.DeepCutAuto
import Derived.Deep.DeepMust
namespace Go.Proofs.Ytbpodmgogokpiaa
open Go.RowKit
set_option linter.unusedVariables false

theorem few_body {l : List ByteArray} (h : accT l l.length ≤ 3000) : l.length ≤ 65536 ∧ (bodyF l).length ≤ 1048576 ∧ ∀ s ∈ l, s.size < 4294967296 := by
  obtain ⟨h1, h2⟩ := few_facts h
  have h3 := few_len h
  rw [frameF_len] at h3
  exact ⟨by omega, by omega, fun s hs => by have := h2 s hs; omega⟩
theorem frame_ge (l : List ByteArray) : 12 ≤ (frameF l).length := by
  rw [frameF_len]
  unfold bodyF bodyT
  rw [List.length_append, le4_length]
  omega

set_option maxHeartbeats 8000000 in
set_option maxRecDepth 100000 in
theorem framesBack_any (A : Option Addr) (n c : Nat) (l : List ByteArray) (M : Option Addr) (m cm : Nat) (b : List UInt8) (cut at_ : Int) (y : UInt8) (w : World)
    (hr : Reads w w.heap.size 1 A n (svs l)) (hc : n ≤ c) (hcm : c ≤ maxLen) (hs : ∀ s ∈ l, s.size ≤ 140737488351232)
    (hrb : Reads w w.heap.size 1 M m (bvs b)) (hm : m ≤ cm) (hmm : cm ≤ maxLen) :
    Calls Try.prog 7 #[.slice A n c, .agg #[.slice M m cm, .int .i64 cut, .int .i64 at_, .int .u8 y.toNat]] w fun e w' => e = .returned (.bool true) ∧ Below w.heap.size w w' := by
  have hl := hide hr.slen
  have hlb := hide hrb.blen
  have hr0 := hr.alloc (Nat.le_refl _) (.cells #[.slice M m cm, .int .i64 cut, .int .i64 at_, .int .u8 y.toNat] 44)
  have hrb0 := hrb.alloc (Nat.le_refl _) (.cells #[.slice M m cm, .int .i64 cut, .int .i64 at_, .int .u8 y.toNat] 44)
  have hB0 := Blk.new w 44 #[.slice M m cm, .int .i64 cut, .int .i64 at_, .int .u8 y.toNat]
  have hb0 : Below w.heap.size w (w.alloc (.cells #[.slice M m cm, .int .i64 cut, .int .i64 at_, .int .u8 y.toNat] 44)) := (Below.refl _ w).alloc (Nat.le_refl _) _
  have hfw := hide (few_any A n c l _ hr0 (by omega) hs)
  by_cases hf : accT l l.length ≤ 3000
  case neg =>
    have hd : decide (accT l l.length ≤ 3000) = false := by simpa using hf
    go_enter Try.func7, Try.ntmps7
    go_wp2_with (first
      | (go_at_call 10; refine hfw.out.mono ?_; rintro e w1 ⟨hp, rfl⟩; unfold FewPost at hp; subst hp; rw [hd])
      | (go_at_call 11; refine (works_any _).mono ?_; rintro e w1 ⟨rfl, hb1⟩)
      | fail)
    go_ret
    exact ⟨rfl, hb0.trans (hb1.mono hb0.size)⟩
  case pos =>
    have hd : decide (accT l l.length ≤ 3000) = true := by simpa using hf
    by_cases hm3 : 3000 < m
    · have hm3I : (3000 : Int) < (m : Int) := by omega
      go_enter Try.func7, Try.ntmps7
      go_wp2_with (first
        | (go_at_call 10; refine hfw.out.mono ?_; rintro e w1 ⟨hp, rfl⟩; unfold FewPost at hp; subst hp; rw [hd])
        | (go_at_call 11; refine (works_any _).mono ?_; rintro e w1 ⟨rfl, hb1⟩)
        | fail)
      go_ret
      exact ⟨rfl, hb0.trans (hb1.mono hb0.size)⟩
    · have hm3I : ¬ (3000 : Int) < (m : Int) := by omega
      obtain ⟨hn3, hsz⟩ := few_facts hf
      rw [hl.out] at hn3
      have HSZ := hide (few_size hf)
      obtain ⟨hq1, hq2, hq3⟩ := few_body hf
      have HRF : Hid (readF (frameF l ++ b) = .inr (l, (frameF l).length)) := readF_frame l b hq1 hq2 hq3
      have HRC : Hid (∀ k, k < (frameF l).length → readF ((frameF l).take k) = .inl 120) := fun k hk => readF_cut l k hk hq2
      have HRS : Hid (∀ k v x, 4 ≤ k → (frameF l)[k]? = some x → x ≠ v → readF ((frameF l).set k v) = .inl 121) := fun k v x h4 hx hv => by
        obtain ⟨hk, rfl⟩ := List.getElem?_eq_some_iff.1 hx
        exact readF_spoilt l k v h4 hk hv hq2
      have hfl := few_len hf
      have hfg := frame_ge l
      have HPUT := fun w hr => hide (put_any A n c l w hr hs HSZ.out)
      clear hq1 hq2 hq3 hf hsz
      generalize hF : frameF l = F at *
      generalize hfn : F.length = fl at *
      have HFN := hide hfn
      clear hfn hF
      go_enter Try.func7, Try.ntmps7
      go_upto_region 3 with (first
        | (go_at_call 10; refine hfw.out.mono ?_; rintro e w1 ⟨hp, rfl⟩; unfold FewPost at hp; subst hp; rw [hd])
        | fail)
      clear hfw
      generalize w.alloc (.cells #[.slice M m cm, .int .i64 cut, .int .i64 at_, .int .u8 y.toNat] 44) = W0 at *
      go_upto_region 4 with (first
        | (go_at_call 12
           go_must (
           refine (HPUT W0 (hr0.more hb0.size)).out.mono ?_
           rintro e w3 ⟨v3, rfl, ho3, hb3⟩))
        | fail)
      obtain ⟨g3, c3, rfl, hc31, hc32, hg31, hg32⟩ := own_form ho3 (by omega)
      clear HPUT
      have hB3 := hB0.below hb3 hB0.lt
      have hr3 := hr0.below (hb3.mono hb0.size)
      have hrb3 := hrb0.below (hb3.mono hb0.size)
      have hbw3 := hb0.trans (hb3.mono hb0.size)
      have hgl3 : w.heap.size < w3.heap.size := hB3.lt
      clear hB0 hr0 hrb0 hb3
      go_cut [7, 8, 9] (fun s7 s8 s9 wx => ∃ A7 c7, s7 = .slice A7 n c7 ∧ s8 = .int .i64 fl ∧ s9 = .int .i64 0 ∧ wx.ownsRow w3.heap.size 9 1 (.slice A7 n c7) n (svs l) ∧ Below w3.heap.size w3 wx)
      case first =>
        have c00 : w3.cell? ⟨w.heap.size, 0, none⟩ = some (.slice M m cm) := hB3.cell 0
        have hrF : Reads w3.drew w3.heap.size 1 (some ⟨g3, 0, none⟩) fl (bvs F) := (Reads.of_own ho3).more (Nat.le_refl _)
        have hrb3 : Reads w3.drew w3.heap.size 1 M m (bvs b) := hrb3.more (by omega)
        have hB3 : Blk w3.drew w.heap.size 44 #[.slice M m cm, .int .i64 cut, .int .i64 at_, .int .u8 y.toNat] := hB3
        have hbx : Below w3.heap.size w3 w3.drew := (Below.refl _ _).drew
        have c0 := hB3.cell 0
        have hown0 : (w3.drew.alloc (.cells #[] 5)).ownsRow w3.heap.size 5 1 (.slice (some ⟨w3.heap.size, 0, none⟩) 0 0) 0 [] := World.ownsRow_made w3.drew #[] 0 (Nat.le_refl _) (by decide) rfl
        have hrF0 := hrF.alloc (Nat.le_refl _) (.cells #[] 5)
        have hrb0 := hrb3.alloc (Nat.le_refl _) (.cells #[] 5)
        have hB0 := hB3.alloc (.cells #[] 5)
        have hbx0 : Below w3.heap.size w3 (w3.drew.alloc (.cells #[] 5)) := hbx.alloc (Nat.le_refl _) _
        go_region_law (first
          | (refine step_append (o := ⟨some 35, _, _, _, _, _⟩) (by rfl) (.tmp 33) (.tmp 34) 25 (by rfl) u8_ok Try.underlying25 hown0 (by rfl) hrF0 (by rfl) (bvs_one _) (by unfold maxLen; omega) (by omega) (by simp) ?_
             intro v5 w5 hown5 hb5 hg5
             rw [Nat.zero_add, List.nil_append] at hown5
             obtain ⟨A5, c5, rfl, hc51, hc52⟩ := own_slice hown5
             have hrb5 := hrb0.below hb5
             have hB5 := hB0.below hb5 hgl3
             have hbx5 := hbx0.trans hb5
             have d5 := hB5.cell 0)
          | (refine step_append (o := ⟨some 38, _, _, _, _, _⟩) (by rfl) (.tmp 35) (.tmp 37) 25 (by rfl) u8_ok Try.underlying25 hown5 (by rfl) hrb5 (by rfl) (bvs_one _) (by unfold maxLen; omega) (by omega) hbx5.size ?_
             intro v6 w6 hown6 hb6 hg6
             rw [← bvs_append] at hown6
             obtain ⟨A6, c6, rfl, hc61, hc62⟩ := own_slice hown6
             have hbx6 := hbx5.trans hb6
             have hrr := Reads.of_own hown6)
          | (go_simp
             go_at_call 17
             go_must (
             refine (read_yes A6 (fl + m) c6 fl l (F ++ b) w6 hrr hc61 hc62 (by omega) HRF.out).mono ?_
             rintro e w7 ⟨v7, rfl, ho7, hb7⟩
             rw [hl.out] at ho7
             obtain ⟨A7, c7, rfl, hc71, hc72⟩ := own_slice ho7
             have hbx7 := hbx6.trans (hb7.mono hbx6.size)
             have ho7 := own_base ho7 hbx6.size)))
        all_goals
          go_wp2_with fail
          go_meet
          case rel => exact ⟨A7, c7, rfl, rfl, rfl, ho7, hbx7⟩
      case rest =>
        obtain ⟨A7, c7, rfl, rfl, rfl, ho7, hbx7⟩ := hcut
        have hB7 := hB3.below hbx7 hgl3
        have hr7 := hr3.below (hbx7.mono (by omega))
        have ho37 := own_below ho3 hbx7
        have hbw7 := hbw3.trans (hbx7.mono hbw3.size)
        have hg37 : g3 < wc.heap.size := Nat.lt_of_lt_of_le hg32 hbx7.size
        have hfgI : ¬ (fl : Int) < 12 := by omega
        clear hr3 hrb3 hB3 ho3 hbw3
        go_upto_region 7 with (first
          | (go_at_call 14; refine (num_any 0 _).mono ?_; rintro e w2' ⟨rfl, rfl⟩)
          | (go_at_call 16
             go_must (
             refine (rone_any A7 n c7 A n c l l wc (Reads.of_own ho7) hr7 (by omega)).mono ?_
             rintro e wx ⟨rfl, m8, hw8⟩
             rw [show decide (l = l) = true from by simp]
             have hb8 : Below wc.heap.size wc wx := by rw [hw8]; exact below_drewN (Below.refl _ _) _
             have hBX := hB7.below hb8 hB7.lt
             have hoX := own_below ho37 hb8
             have hbX := hbw7.trans (hb8.mono hbw7.size)
             have hgX : g3 < wx.heap.size := Nat.lt_of_lt_of_le hg37 hb8.size
             have hglX : w.heap.size < wx.heap.size := hBX.lt
             clear hw8))
          | fail)
        have d1 : wx.cell? ⟨w.heap.size, 1, none⟩ = some (.int .i64 cut) := hBX.cell 1
        clear hB7 ho7 hr7 ho37 hbw7 hbx7 hb8 hg37
        by_cases hcut : 0 ≤ cut ∧ cut < fl
        case pos =>
          obtain ⟨k, rfl⟩ := Int.eq_ofNat_of_zero_le hcut.1
          have hk : k < fl := by omega
          have hcg : (k : Int) ≤ (c3 : Int) := by omega
          have hkI : (k : Int) < (fl : Int) := by omega
          have HX := hide (HRC.out k hk)
          have hrk : Reads wx wx.heap.size 1 (some ⟨g3, 0, none⟩) k (bvs (F.take k)) := (Reads.of_own hoX).front (m := k) (by omega)
          clear hcut
          go_upto_region 11 with (first
            | (go_at_call 17
               go_must (
               refine (read_no _ k c3 _ (F.take k) wx hrk (by omega) hc32 (by omega) HX.out).mono ?_
               rintro e wx' ⟨rfl, hb9⟩
               have hBX := hBX.below hb9 hglX
               have hoX := own_below hoX hb9
               have hbX := hbX.trans (hb9.mono hbX.size)
               have hgX : g3 < wx'.heap.size := Nat.lt_of_lt_of_le hgX hb9.size
               have hglX : w.heap.size < wx'.heap.size := hBX.lt
               clear d1 hrk hb9))
            | (go_at_call 14; refine (num_any 120 _).mono ?_; rintro e w2' ⟨rfl, rfl⟩)
            | fail)
          clear HRC HRF
          have d2 : wx'.cell? ⟨w.heap.size, 2, none⟩ = some (.int .i64 at_) := hBX.cell 2
          have d3 : wx'.cell? ⟨w.heap.size, 3, none⟩ = some (.int .u8 y.toNat) := hBX.cell 3
          by_cases hat : 4 ≤ at_ ∧ at_ < fl
          case neg =>
            by_cases h4 : 4 ≤ at_
            · have hf4 : decide (at_ < (fl : Int)) = false := by simp; omega
              clear hat
              go_quiet (fail)
              go_wp2_with (first
                | (go_at_call 11; refine (works_any _).mono ?_; rintro e w10 ⟨rfl, hb10⟩)
                | fail)
              go_ret
              exact ⟨rfl, (below_drewN hbX _).trans (hb10.mono hbX.size)⟩
            · have hf4 : decide (4 ≤ at_) = false := by simp; omega
              clear hat h4
              go_quiet (fail)
              go_wp2_with (first
                | (go_at_call 11; refine (works_any _).mono ?_; rintro e w10 ⟨rfl, hb10⟩)
                | fail)
              go_ret
              exact ⟨rfl, (below_drewN hbX _).trans (hb10.mono hbX.size)⟩
          case pos =>
            obtain ⟨q, rfl⟩ := Int.eq_ofNat_of_zero_le (show 0 ≤ at_ by omega)
            have hq4 : 4 ≤ q := by omega
            have hqf : q < fl := by omega
            have hq4I : (4 : Int) ≤ (q : Int) := by omega
            have hqfI : (q : Int) < (fl : Int) := by omega
            obtain ⟨b', o', e1, _, hcs⟩ := (Reads.of_own hoX).byte (k := q) hqf
            obtain ⟨rfl, rfl⟩ : g3 = b' ∧ 0 = o' := by simpa using e1
            rw [Nat.zero_add] at hcs
            have hx : F[q]? = some (F.getD q 0) := by rw [List.getD_eq_getElem?_getD, List.getElem?_eq_getElem (by rw [HFN.out]; exact hqf)]; rfl
            generalize F.getD q 0 = x at hcs hx
            clear e1 hat
            by_cases hxy : x = y
            · subst hxy
              have hne : ((x.toNat : Int) != (x.toNat : Int)) = false := by simp
              clear hx
              go_quiet (fail)
              go_wp2_with (first
                | (go_at_call 11; refine (works_any _).mono ?_; rintro e w10 ⟨rfl, hb10⟩)
                | fail)
              go_ret
              exact ⟨rfl, (below_drewN hbX _).trans (hb10.mono hbX.size)⟩
            · have HX := hide (HRS.out q y x hq4 hx hxy)
              have hne0 : ¬ ((x.toNat : Int) = (y.toNat : Int)) := fun h => hxy (UInt8.toNat_inj.mp (by omega))
              have hne : ((x.toNat : Int) != (y.toNat : Int)) = true := by simpa using hne0
              clear hx hxy hne0
              go_quiet (fail)
              have hBX := hBX.drewN nq
              have hbX := below_drewN hbX nq
              have hoX : (wx'.drewN nq).ownsRow W0.heap.size 5 1 (.slice (some ⟨g3, 0, none⟩) fl c3) fl (bvs F) := hoX
              have hgX : g3 < (wx'.drewN nq).heap.size := hgX
              have hglX : w.heap.size < (wx'.drewN nq).heap.size := hglX
              clear d2 d3 hcs
              generalize wx'.drewN nq = W5 at *
              have hown0 : (W5.alloc (.cells #[] 5)).ownsRow W5.heap.size 5 1 (.slice (some ⟨W5.heap.size, 0, none⟩) 0 0) 0 [] := World.ownsRow_made W5 #[] 0 (Nat.le_refl _) (by decide) rfl
              have hrF0 := ((Reads.of_own hoX).more (Nat.le_refl _)).alloc (Nat.le_refl _) (.cells #[] 5)
              have hB0 := hBX.alloc (.cells #[] 5)
              have hb0 := hbX.alloc hbX.size (.cells #[] 5)
              go_upto_region 13 with (first
                | (refine wpList_append (o := ⟨some 107, _, _, _, _, _⟩) rfl (.tmp 105) (.tmp 106) 25 rfl u8_ok Try.underlying25 hown0 rfl hrF0 rfl (bvs_one _) (by unfold maxLen; omega) (by omega) (by simp) ?_
                   intro v6 w6 hown6 hb6 _ _
                   rw [Nat.zero_add, List.nil_append] at hown6
                   obtain ⟨g6, c6, rfl, hc61, hc62, hg61, hg62⟩ := own_form hown6 (by omega)
                   have hB6 := hB0.below hb6 hglX
                   have hb6w := hb0.trans (hb6.mono hbX.size))
                | fail)
              obtain ⟨b6, o6, e6, _, hcs6⟩ := (Reads.of_own hown6).byte (k := q) hqf
              obtain ⟨rfl, rfl⟩ : g6 = b6 ∧ 0 = o6 := by simpa using e6
              rw [Nat.zero_add] at hcs6
              clear e6
              have f6 := own_frozen hown6 q
              have d2 : w6.cell? ⟨w.heap.size, 2, none⟩ = some (.int .i64 q) := hB6.cell 2
              have d3 : w6.cell? ⟨w.heap.size, 3, none⟩ = some (.int .u8 y.toNat) := hB6.cell 3
              have hown7 := own_set hown6 hqf (.int .u8 y.toNat)
              have hset : (bvs F).set q (.int .u8 y.toNat) = bvs (F.set q y) := by simp [bvs, List.map_set]
              rw [hset] at hown7
              have hb7 := hb6w.setCell (p := ⟨g6, q, none⟩) (by have := hbX.size; simp; omega) (.int .u8 y.toNat)
              clear hset hB0 hb0 hb6w hb6 hrF0 hown0
              have hr7 := (Reads.of_own hown7)
              go_wp2_with (first
                | (go_at_call 17
                   go_must (
                   refine (read_no _ fl c6 121 (F.set q y) _ hr7 hc61 hc62 (by omega) HX.out).mono ?_
                   rintro e w8 ⟨rfl, hb8⟩
                   have hb8w := hb7.trans (hb8.mono hb7.size)))
                | (go_at_call 14; refine (num_any 121 _).mono ?_; rintro e w2' ⟨rfl, rfl⟩)
                | (go_at_call 11; refine (works_any _).mono ?_; rintro e w10 ⟨rfl, hb10⟩)
                | fail)
              go_ret
              exact ⟨rfl, hb8w.trans (hb10.mono hb8w.size)⟩
        case neg =>
          rcases (show ¬ 0 ≤ cut ∨ (0 ≤ cut ∧ ¬ cut < (fl : Int)) by omega) with h0 | ⟨h0, h1⟩
          all_goals
            clear hcut
            go_upto_region 11 with fail
            clear HRC HRF
            have d2 : wx.cell? ⟨w.heap.size, 2, none⟩ = some (.int .i64 at_) := hBX.cell 2
            have d3 : wx.cell? ⟨w.heap.size, 3, none⟩ = some (.int .u8 y.toNat) := hBX.cell 3
            by_cases hat : 4 ≤ at_ ∧ at_ < fl
            case neg =>
              by_cases h4 : 4 ≤ at_
              · have hf4 : decide (at_ < (fl : Int)) = false := by simp; omega
                clear hat
                go_quiet (fail)
                go_wp2_with (first
                  | (go_at_call 11; refine (works_any _).mono ?_; rintro e w10 ⟨rfl, hb10⟩)
                  | fail)
                go_ret
                exact ⟨rfl, (below_drewN hbX _).trans (hb10.mono hbX.size)⟩
              · have hf4 : decide (4 ≤ at_) = false := by simp; omega
                clear hat h4
                go_quiet (fail)
                go_wp2_with (first
                  | (go_at_call 11; refine (works_any _).mono ?_; rintro e w10 ⟨rfl, hb10⟩)
                  | fail)
                go_ret
                exact ⟨rfl, (below_drewN hbX _).trans (hb10.mono hbX.size)⟩
            case pos =>
              obtain ⟨q, rfl⟩ := Int.eq_ofNat_of_zero_le (show 0 ≤ at_ by omega)
              have hq4 : 4 ≤ q := by omega
              have hqf : q < fl := by omega
              have hq4I : (4 : Int) ≤ (q : Int) := by omega
              have hqfI : (q : Int) < (fl : Int) := by omega
              obtain ⟨b', o', e1, _, hcs⟩ := (Reads.of_own hoX).byte (k := q) hqf
              obtain ⟨rfl, rfl⟩ : g3 = b' ∧ 0 = o' := by simpa using e1
              rw [Nat.zero_add] at hcs
              have hx : F[q]? = some (F.getD q 0) := by rw [List.getD_eq_getElem?_getD, List.getElem?_eq_getElem (by rw [HFN.out]; exact hqf)]; rfl
              generalize F.getD q 0 = x at hcs hx
              clear e1 hat
              by_cases hxy : x = y
              · subst hxy
                have hne : ((x.toNat : Int) != (x.toNat : Int)) = false := by simp
                clear hx
                go_quiet (fail)
                go_wp2_with (first
                  | (go_at_call 11; refine (works_any _).mono ?_; rintro e w10 ⟨rfl, hb10⟩)
                  | fail)
                go_ret
                exact ⟨rfl, (below_drewN hbX _).trans (hb10.mono hbX.size)⟩
              · have HX := hide (HRS.out q y x hq4 hx hxy)
                have hne0 : ¬ ((x.toNat : Int) = (y.toNat : Int)) := fun h => hxy (UInt8.toNat_inj.mp (by omega))
                have hne : ((x.toNat : Int) != (y.toNat : Int)) = true := by simpa using hne0
                clear hx hxy hne0
                go_quiet (fail)
                have hBX := hBX.drewN nq
                have hbX := below_drewN hbX nq
                have hoX : (wx.drewN nq).ownsRow W0.heap.size 5 1 (.slice (some ⟨g3, 0, none⟩) fl c3) fl (bvs F) := hoX
                have hgX : g3 < (wx.drewN nq).heap.size := hgX
                have hglX : w.heap.size < (wx.drewN nq).heap.size := hglX
                clear d2 d3 hcs
                generalize wx.drewN nq = W5 at *
                have hown0 : (W5.alloc (.cells #[] 5)).ownsRow W5.heap.size 5 1 (.slice (some ⟨W5.heap.size, 0, none⟩) 0 0) 0 [] := World.ownsRow_made W5 #[] 0 (Nat.le_refl _) (by decide) rfl
                have hrF0 := ((Reads.of_own hoX).more (Nat.le_refl _)).alloc (Nat.le_refl _) (.cells #[] 5)
                have hB0 := hBX.alloc (.cells #[] 5)
                have hb0 := hbX.alloc hbX.size (.cells #[] 5)
                go_upto_region 13 with (first
                  | (refine wpList_append (o := ⟨some 107, _, _, _, _, _⟩) rfl (.tmp 105) (.tmp 106) 25 rfl u8_ok Try.underlying25 hown0 rfl hrF0 rfl (bvs_one _) (by unfold maxLen; omega) (by omega) (by simp) ?_
                     intro v6 w6 hown6 hb6 _ _
                     rw [Nat.zero_add, List.nil_append] at hown6
                     obtain ⟨g6, c6, rfl, hc61, hc62, hg61, hg62⟩ := own_form hown6 (by omega)
                     have hB6 := hB0.below hb6 hglX
                     have hb6w := hb0.trans (hb6.mono hbX.size))
                  | fail)
                obtain ⟨b6, o6, e6, _, hcs6⟩ := (Reads.of_own hown6).byte (k := q) hqf
                obtain ⟨rfl, rfl⟩ : g6 = b6 ∧ 0 = o6 := by simpa using e6
                rw [Nat.zero_add] at hcs6
                clear e6
                have f6 := own_frozen hown6 q
                have d2 : w6.cell? ⟨w.heap.size, 2, none⟩ = some (.int .i64 q) := hB6.cell 2
                have d3 : w6.cell? ⟨w.heap.size, 3, none⟩ = some (.int .u8 y.toNat) := hB6.cell 3
                have hown7 := own_set hown6 hqf (.int .u8 y.toNat)
                have hset : (bvs F).set q (.int .u8 y.toNat) = bvs (F.set q y) := by simp [bvs, List.map_set]
                rw [hset] at hown7
                have hb7 := hb6w.setCell (p := ⟨g6, q, none⟩) (by have := hbX.size; simp; omega) (.int .u8 y.toNat)
                clear hset hB0 hb0 hb6w hb6 hrF0 hown0
                have hr7 := (Reads.of_own hown7)
                go_wp2_with (first
                  | (go_at_call 17
                     go_must (
                     refine (read_no _ fl c6 121 (F.set q y) _ hr7 hc61 hc62 (by omega) HX.out).mono ?_
                     rintro e w8 ⟨rfl, hb8⟩
                     have hb8w := hb7.trans (hb8.mono hb7.size)))
                  | (go_at_call 14; refine (num_any 121 _).mono ?_; rintro e w2' ⟨rfl, rfl⟩)
                  | (go_at_call 11; refine (works_any _).mono ?_; rintro e w10 ⟨rfl, hb10⟩)
                  | fail)
                go_ret
                exact ⟨rfl, hb8w.trans (hb10.mono hb8w.size)⟩
end Go.Proofs.Ytbpodmgogokpiaa
