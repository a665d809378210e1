/- The walk of the law DequeTells: it returns true at every input. Conditions: no text takes more than the form's reach. -/
import Derived.Test.YtlglelgnpkdnbaaDqT
namespace Go.Proofs.Ytlglelgnpkdnbaa
open Go.RowKit
set_option linter.unusedVariables false

theorem place_some {n a : Int} (h : placeOk n a = true) : ∃ p : Nat, placeA n a = p ∧ (p : Int) < n := by
  have h' : 0 ≤ placeI n a ∧ placeI n a < n := by simpa [placeOk] using h
  refine ⟨(placeI n a).toNat, ?_, by omega⟩
  unfold placeA
  rw [h, if_pos rfl]
  omega

set_option maxHeartbeats 8000000 in
theorem dequeTells_any (A : Option Addr) (n c : Nat) (l : List ByteArray) (fi ui : Int) (hfi : I64 fi) (hui : I64 ui) (t : ByteArray) (htm : t.size ≤ 140737488351232) (w : World) (hr : Reads w w.heap.size 1 A n (svs l)) (hc : n ≤ c) (hcm : c ≤ maxLen) (hs : ∀ s ∈ l, s.size ≤ 140737488351232) :
    Calls Try.prog 7 #[.slice A n c, .int .i64 fi, .int .i64 ui, .string t] w fun e w' => e = .returned (.bool true) ∧ Below w.heap.size w w' := by
  have hl := hide hr.slen
  have hfw := hide (few_any A n c l w hr (by omega) hs)
  by_cases hf : acc l l.length ≤ 3000
  case neg =>
    have hd : decide (acc l l.length ≤ 3000) = false := by simpa using hf
    go_enter Try.func7, Try.ntmps7
    go_wp2_with (first
      | (go_at_call 14; refine hfw.out.mono ?_; rintro e w1 ⟨hp, rfl⟩; unfold FewPost at hp; subst hp; rw [hd])
      | (go_at_call 9; refine (works_any _).mono ?_; rintro e w1 ⟨rfl, hb1⟩)
      | fail)
    go_ret
    exact ⟨rfl, hb1⟩
  case pos =>
    have hd : decide (acc l l.length ≤ 3000) = true := by simpa using hf
    obtain ⟨hn3, hsz⟩ := few_facts hf
    rw [hl.out] at hn3
    by_cases ht3 : t.size ≤ 3000
    case neg =>
      have htI : (3000 : Int) < (t.size : Int) := by omega
      go_enter Try.func7, Try.ntmps7
      go_wp2_with (first
        | (go_at_call 14; refine hfw.out.mono ?_; rintro e w1 ⟨hp, rfl⟩; unfold FewPost at hp; subst hp; rw [hd])
        | (go_at_call 9; refine (works_any _).mono ?_; rintro e w1 ⟨rfl, hb1⟩)
        | fail)
      go_ret
      exact ⟨rfl, hb1⟩
    case pos =>
      have htI : ¬ (3000 : Int) < (t.size : Int) := by omega
      have hrp := rplace_any n fi ⟨by omega, by omega⟩ hfi
      by_cases hok : placeOk n fi = true
      · obtain ⟨p, hp, hpn⟩ := place_some hok
        have hpn' : p < n := by omega
        have HP := hide hp
        have HOK := hide hok
        rw [hp, hok] at hrp
        clear hp hok
        obtain ⟨b, o, s, rfl, hb, hss, hcell⟩ := hr.text hpn'
        have hpI : (0 : Int) ≤ (p : Int) := by omega
        go_enter Try.func7, Try.ntmps7
        go_upto_region 8 with (first
          | (go_at_call 14; refine hfw.out.mono ?_; rintro e w1 ⟨hp, rfl⟩; unfold FewPost at hp; subst hp; rw [hd])
          | (go_at_call 15
             go_must (
             refine (new_any _ n c l w hr (by omega) (fun s h => by have := hsz s h; omega)).mono ?_
             rintro e w1 ⟨g, rfl, hD1, hb1⟩))
          | (go_at_call 13; refine (hrp _).mono ?_; rintro e w1' ⟨rfl, rfl⟩)
          | (go_at_call 22
             go_must (
             refine (at_some w1 hD1 (by rw [hl.out]; omega) fi hfi p s (by rw [hl.out]; exact HP.out) (by rw [hl.out]; exact HOK.out) hss).mono ?_
             rintro e w2 ⟨rfl, hb2⟩
             have hD2 := hD1.below hb2
             have hbw2 := hb1.trans (hb2.mono hb1.size)))
          | (go_at_call 23
             go_must (
             refine (range_any w2 hD2 fi ui hfi hui).mono ?_
             rintro e w3 ⟨v3, rfl, ho3, hb3⟩
             have hD3 := hD2.below hb3
             have hbw3 := hbw2.trans (hb3.mono hbw2.size)
             obtain ⟨A3, c3, rfl, hc31, hc32⟩ := own_slice ho3
             have hcell3 : w3.cell? ⟨b, o + p, none⟩ = some (.string s) := (hbw3.cell (p := ⟨b, o + p, none⟩) hb).trans hcell
             have hr3 := (hr.below hbw3).more hbw3.size))
          | (go_at_call 18; refine (num_any 0 _).mono ?_; rintro e w2' ⟨rfl, rfl⟩)
          | (go_at_call 25
             go_must (
             refine (rrange_any _ n c l w3 hr3 (by omega) hc hcm fi ui hfi hui).mono ?_
             rintro e w4 ⟨v4, rfl, ho4, hb4⟩
             have hD4 := hD3.below hb4
             have hbw4 := hbw3.trans (hb4.mono hbw3.size)
             obtain ⟨A4, c4, rfl, hc41, hc42⟩ := own_slice ho4
             have ho34 := own_below ho3 hb4))
          | (go_at_call 24
             go_must (
             refine (same_like A3 _ c3 A4 c4 (rangeOf l fi ui) w4 (Reads.of_own ho34) (Reads.of_own ho4) (by rw [rangeOf_length]; have := sp_facts l.length fi ui; have := hl.out; omega)).mono ?_
             rintro e w5 ⟨rfl, hb5⟩
             have hD5 := hD4.below hb5
             have hbw5 := hbw4.trans (hb5.mono hbw4.size)
             have ho5 := own_below ho34 hb5))
          | fail)
        have hbs5 : Below w2.heap.size w2 w5 := (hb3.trans (hb4.mono hb3.size)).trans (hb5.mono (Nat.le_trans hb3.size hb4.size))
        have hrm := rangeOf_length l fi ui
        have hrm2 := sp_facts l.length fi ui
        have hln := hl.out
        have hm300 : (rangeOf l fi ui).length ≤ 300 := by omega
        clear hrm hrm2 hln
        generalize rangeOf l fi ui = rg at *
        generalize hm : rg.length = m at *
        have HM := hide hm
        clear hm ho3 ho4 ho34 hD4 hD3 hD1 hr3 hcell3 hfw hrp
        go_loopw [16] (fun i wr => ∃ (k : Nat) (cur : List ByteArray), k ≤ m ∧ i = .int .i64 k ∧ wr.ownsRow w2.heap.size 9 1 (.slice A3 m c3) m (svs cur) ∧ Below w2.heap.size w2 wr ∧ Below w.heap.size w wr) (fun i _ => m - (intOf i).toNat)
        case atStart => exact ⟨0, rg, by omega, rfl, ho5, hbs5, hbw5⟩
        case round =>
          obtain ⟨k, cur, hk, rfl, how, hbs, hbw⟩ := hrel
          by_cases hkm : k < m
          · have hkI : (k : Int) < (m : Int) := by omega
            have hk0 : (0 : Int) ≤ (k : Int) := by omega
            obtain ⟨g3, c3', e3, hc31', hc32', hg31, hg32⟩ := own_form how (by omega)
            injection e3 with e31 e32 e33
            subst e31 e33
            obtain ⟨b', o', s', e1, _, _, hck⟩ := (Reads.of_own how).text hkm
            obtain ⟨rfl, rfl⟩ : g3 = b' ∧ 0 = o' := by simpa using e1
            rw [Nat.zero_add] at hck
            have hfk := own_frozen how k
            have hw2 : IntKind.i64.wrap ((k : Int) + 1) = (k : Int) + 1 := IntWalk.i64_in _ (by omega)
            have hown' := own_set how hkm (.string ⟨#[63]⟩)
            rw [svs_set] at hown'
            have hwg : w.heap.size ≤ g3 := Nat.le_trans hbw2.size hg31
            go_wp2_with fail
            go_roundw
            case rel => exact ⟨k + 1, _, by omega, by simp, hown', hbs.setCell hg31 _, hbw.setCell hwg _⟩
            case measure => simp [intOf]; omega
          · have hkI : ¬ (k : Int) < (m : Int) := by omega
            have hD := hD2.below hbs
            have hn1 : 0 < n := by omega
            clear how
            go_wp2_with (first
              | (go_at_call 26
                 go_must (
                 refine (put_some wr hD (by rw [hl.out]; omega) fi hfi p (by rw [hl.out]; exact HP.out) (by rw [hl.out]; exact HOK.out) (by rw [hl.out]; exact hpn') t (by omega)).mono ?_
                 rintro e w6 ⟨rfl, hD6, hb6⟩
                 have hbw6 := hbw.trans hb6
                 have hr6 := ((hr.below hbw6).more hbw6.size).alloc (Nat.le_refl _) (.cells #[] 9)
                 have hown6 : (w6.alloc (.cells #[] 9)).ownsRow w6.heap.size 9 1 (.slice (some ⟨w6.heap.size, 0, none⟩) 0 0) 0 [] := World.ownsRow_made w6 #[] 0 (Nat.le_refl _) (by decide) rfl))
              | (at_builtin
                 go_must (
                 refine wpList_append rfl (.tmp 99) (.tmp 100) 29 rfl str_ok Try.underlying29 hown6 rfl hr6 rfl (svs_one _) (by unfold maxLen; omega) (by omega) (by simp) ?_
                 intro v7 w7 hown7 hb7 _ _
                 rw [Nat.zero_add, List.nil_append] at hown7
                 obtain ⟨g7, c7, rfl, hc71, hc72, hg71, hg72⟩ := own_form hown7 hn1
                 obtain ⟨b', o', s', e1, _, _, hck7⟩ := (Reads.of_own hown7).text hpn'
                 obtain ⟨rfl, rfl⟩ : g7 = b' ∧ 0 = o' := by simpa using e1
                 rw [Nat.zero_add] at hck7
                 have hfk7 := own_frozen hown7 p
                 have hb67 : Below w6.heap.size w6 w7 := ((Below.refl _ w6).alloc (Nat.le_refl _) _).trans hb7
                 have HOWN8 := hide (own_set hown7 hpn' (.string t))
                 have HB68 := hide (hb67.setCell (p := ⟨g7, p, none⟩) hg71 (.string t))
                 have hw6 : w.heap.size ≤ w6.heap.size := hbw6.size
                 have HB8 := hide ((hbw6.trans (hb67.mono hw6)).setCell (p := ⟨g7, p, none⟩) (Nat.le_trans hw6 hg71) (.string t))
                 clear hown7 hown6 hr6))
              | (go_at_call 18; refine (num_any 0 _).mono ?_; rintro e w2' ⟨rfl, rfl⟩)
              | (go_at_call 19
                 go_must (
                 generalize w7.setCell ⟨g7, p, none⟩ (.string t) = w8 at *
                 have ho8 := HOWN8.out
                 rw [svs_set] at ho8
                 refine (is_any _ n c7 w8 (hD6.below HB68.out) (by rw [List.length_set, hl.out]; omega) (Reads.of_own ho8)).mono ?_
                 rintro e w9 ⟨rfl, hb9⟩
                 have hbw9 := HB8.out.trans (hb9.mono HB8.out.size)))
              | (go_at_call 9; refine (works_any w9).mono ?_; rintro e w10 ⟨rfl, hb10⟩)
              | fail)
            go_ret
            exact ⟨ret_bool rfl, hbw9.trans (hb10.mono hbw9.size)⟩
      · have hok' : placeOk n fi = false := by simpa using hok
        have hp0 : placeA n fi = 0 := by unfold placeA; rw [hok']; rfl
        have HOK := hide hok'
        rw [hp0, hok'] at hrp
        clear hp0 hok' hok
        go_enter Try.func7, Try.ntmps7
        go_upto_region 8 with (first
          | (go_at_call 14; refine hfw.out.mono ?_; rintro e w1 ⟨hp, rfl⟩; unfold FewPost at hp; subst hp; rw [hd])
          | (go_at_call 15
             go_must (
             refine (new_any _ n c l w hr (by omega) (fun s h => by have := hsz s h; omega)).mono ?_
             rintro e w1 ⟨g, rfl, hD1, hb1⟩))
          | (go_at_call 13; refine (hrp _).mono ?_; rintro e w1' ⟨rfl, rfl⟩)
          | (go_at_call 22
             go_must (
             refine (at_none w1 hD1 (by rw [hl.out]; omega) fi hfi (by rw [hl.out]; exact HOK.out)).mono ?_
             rintro e w2 ⟨rfl, rfl⟩))
          | (go_at_call 23
             go_must (
             refine (range_any w1 hD1 fi ui hfi hui).mono ?_
             rintro e w3 ⟨v3, rfl, ho3, hb3⟩
             have hD3 := hD1.below hb3
             have hbw3 := hb1.trans (hb3.mono hb1.size)
             obtain ⟨A3, c3, rfl, hc31, hc32⟩ := own_slice ho3
             have hr3 := (hr.below hbw3).more hbw3.size))
          | (go_at_call 18; refine (num_any 0 _).mono ?_; rintro e w2' ⟨rfl, rfl⟩)
          | (go_at_call 25
             go_must (
             refine (rrange_any _ n c l w3 hr3 (by omega) hc hcm fi ui hfi hui).mono ?_
             rintro e w4 ⟨v4, rfl, ho4, hb4⟩
             have hD4 := hD3.below hb4
             have hbw4 := hbw3.trans (hb4.mono hbw3.size)
             obtain ⟨A4, c4, rfl, hc41, hc42⟩ := own_slice ho4
             have ho34 := own_below ho3 hb4))
          | (go_at_call 24
             go_must (
             refine (same_like A3 _ c3 A4 c4 (rangeOf l fi ui) w4 (Reads.of_own ho34) (Reads.of_own ho4) (by rw [rangeOf_length]; have := sp_facts l.length fi ui; have := hl.out; omega)).mono ?_
             rintro e w5 ⟨rfl, hb5⟩
             have hD5 := hD4.below hb5
             have hbw5 := hbw4.trans (hb5.mono hbw4.size)
             have ho5 := own_below ho34 hb5))
          | fail)
        have hbs5 : Below w1.heap.size w1 w5 := (hb3.trans (hb4.mono hb3.size)).trans (hb5.mono (Nat.le_trans hb3.size hb4.size))
        have hrm := rangeOf_length l fi ui
        have hrm2 := sp_facts l.length fi ui
        have hln := hl.out
        have hm300 : (rangeOf l fi ui).length ≤ 300 := by omega
        clear hrm hrm2 hln
        generalize rangeOf l fi ui = rg at *
        generalize hm : rg.length = m at *
        have HM := hide hm
        clear hm ho3 ho4 ho34 hD4 hD3 hr3 hfw hrp
        go_loopw [16] (fun i wr => ∃ (k : Nat) (cur : List ByteArray), k ≤ m ∧ i = .int .i64 k ∧ wr.ownsRow w1.heap.size 9 1 (.slice A3 m c3) m (svs cur) ∧ Below w1.heap.size w1 wr ∧ Below w.heap.size w wr) (fun i _ => m - (intOf i).toNat)
        case atStart => exact ⟨0, rg, by omega, rfl, ho5, hbs5, hbw5⟩
        case round =>
          obtain ⟨k, cur, hk, rfl, how, hbs, hbw⟩ := hrel
          by_cases hkm : k < m
          · have hkI : (k : Int) < (m : Int) := by omega
            have hk0 : (0 : Int) ≤ (k : Int) := by omega
            obtain ⟨g3, c3', e3, hc31', hc32', hg31, hg32⟩ := own_form how (by omega)
            injection e3 with e31 e32 e33
            subst e31 e33
            obtain ⟨b', o', s', e1, _, _, hck⟩ := (Reads.of_own how).text hkm
            obtain ⟨rfl, rfl⟩ : g3 = b' ∧ 0 = o' := by simpa using e1
            rw [Nat.zero_add] at hck
            have hfk := own_frozen how k
            have hw2 : IntKind.i64.wrap ((k : Int) + 1) = (k : Int) + 1 := IntWalk.i64_in _ (by omega)
            have hown' := own_set how hkm (.string ⟨#[63]⟩)
            rw [svs_set] at hown'
            have hwg : w.heap.size ≤ g3 := Nat.le_trans hb1.size hg31
            go_wp2_with fail
            go_roundw
            case rel => exact ⟨k + 1, _, by omega, by simp, hown', hbs.setCell hg31 _, hbw.setCell hwg _⟩
            case measure => simp [intOf]; omega
          · have hkI : ¬ (k : Int) < (m : Int) := by omega
            have hD := hD1.below hbs
            clear how
            go_wp2_with (first
              | (go_at_call 26
                 go_must (
                 refine (put_none wr hD (by rw [hl.out]; omega) fi hfi (by rw [hl.out]; exact HOK.out) t (by omega)).mono ?_
                 rintro e w6 ⟨rfl, rfl⟩
                 have hr6 := ((hr.below hbw).more hbw.size).alloc (Nat.le_refl _) (.cells #[] 9)
                 have hown6 : (wr.alloc (.cells #[] 9)).ownsRow wr.heap.size 9 1 (.slice (some ⟨wr.heap.size, 0, none⟩) 0 0) 0 [] := World.ownsRow_made wr #[] 0 (Nat.le_refl _) (by decide) rfl))
              | (at_builtin
                 go_must (
                 refine wpList_append rfl (.tmp 99) (.tmp 100) 29 rfl str_ok Try.underlying29 hown6 rfl hr6 rfl (svs_one _) (by unfold maxLen; omega) (by omega) (by simp) ?_
                 intro v7 w7 hown7 hb7 _ _
                 rw [Nat.zero_add, List.nil_append] at hown7
                 obtain ⟨A7, c7, rfl, hc71, hc72⟩ := own_slice hown7
                 have hb67 : Below wr.heap.size wr w7 := ((Below.refl _ wr).alloc (Nat.le_refl _) _).trans hb7
                 have hbw7 := hbw.trans (hb67.mono hbw.size)))
              | (go_at_call 18; refine (num_any 4 _).mono ?_; rintro e w2' ⟨rfl, rfl⟩)
              | (go_at_call 19
                 go_must (
                 refine (is_any _ n c7 w7 (hD.below hb67) (by rw [hl.out]; omega) (Reads.of_own hown7)).mono ?_
                 rintro e w9 ⟨rfl, hb9⟩
                 have hbw9 := hbw7.trans (hb9.mono hbw7.size)))
              | (go_at_call 9; refine (works_any w9).mono ?_; rintro e w10 ⟨rfl, hb10⟩)
              | fail)
            go_ret
            exact ⟨ret_bool rfl, hbw9.trans (hb10.mono hbw9.size)⟩
end Go.Proofs.Ytlglelgnpkdnbaa
