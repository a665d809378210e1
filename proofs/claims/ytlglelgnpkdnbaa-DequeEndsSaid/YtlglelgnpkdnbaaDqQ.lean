/- The walk of the law DequeEnds: it returns true at every input. Conditions: no text takes more than the form's reach. -/
import Derived.Test.YtlglelgnpkdnbaaDqZ
import Derived.Test.YtlglelgnpkdnbaaDqLawA
namespace Go.Proofs.Ytlglelgnpkdnbaa
open Go.RowKit
set_option linter.unusedVariables false

theorem span_place (n a : Int) (h : placeOk n a = true) : spanA n a a = placeA n a ∧ spanB n a a = placeA n a + 1 := by
  have h' : 0 ≤ placeI n a ∧ placeI n a < n := by simpa [placeOk] using h
  have hp : placeA n a = placeI n a := by unfold placeA; rw [h]; rfl
  rw [hp]
  unfold spanA spanB spanHi spanLo
  unfold placeI at *
  constructor <;> (repeat' split) <;> (repeat' split at h') <;> omega
theorem rev_take {l : List ByteArray} {t : Nat} {s : ByteArray} (h : l[t]? = some s) : (l.take (t + 1)).reverse = s :: (l.take t).reverse := by
  rw [take_snoc0 h, List.reverse_append]
  rfl
theorem rev_drop {l : List ByteArray} {t : Nat} {s : ByteArray} (h : l[t]? = some s) : (l.drop t).reverse = (l.drop (t + 1)).reverse ++ [s] := by
  have ht := (List.getElem?_eq_some_iff.1 h).1
  rw [List.drop_eq_getElem_cons ht, List.reverse_cons, (List.getElem?_eq_some_iff.1 h).2]

set_option maxHeartbeats 8000000 in
theorem dequeEnds_any (A : Option Addr) (n c : Nat) (l : List ByteArray) (A' : Option Addr) (n' c' : Nat) (more : List ByteArray) (at' : Int) (hat : I64 at') (w : World) (hr : Reads w w.heap.size 1 A n (svs l)) (hc : n ≤ c) (hcm : c ≤ maxLen) (hs : ∀ s ∈ l, s.size ≤ 140737488351232)
    (hr' : Reads w w.heap.size 1 A' n' (svs more)) (hc' : n' ≤ c') (hcm' : c' ≤ maxLen) (hs' : ∀ s ∈ more, s.size ≤ 140737488351232) :
    Calls Try.prog 6 #[.slice A n c, .slice A' n' c', .int .i64 at'] w fun e w' => e = .returned (.bool true) ∧ Below w.heap.size w w' := by
  have hl := hide hr.slen
  have hl' := hide hr'.slen
  have hfw := hide (few_any A n c l w hr (by omega) hs)
  have hfw' := hide (few_any A' n' c' more w hr' (by omega) hs')
  by_cases hf : acc l l.length ≤ 3000
  case neg =>
    have hd : decide (acc l l.length ≤ 3000) = false := by simpa using hf
    go_enter Try.func6, Try.ntmps6
    go_wp2_with (first
      | (go_at_call 14; refine hfw.out.mono ?_; rintro e w1 ⟨hp, rfl⟩; unfold FewPost at hp; subst hp; rw [hd])
      | (go_at_call 9; refine (works_any _).mono ?_; rintro e w1 ⟨rfl, hb1⟩)
      | fail)
    go_ret
    exact ⟨rfl, hb1⟩
  case pos =>
    have hd : decide (acc l l.length ≤ 3000) = true := by simpa using hf
    obtain ⟨hn3, hsz⟩ := few_facts hf
    rw [hl.out] at hn3
    by_cases hf' : acc more more.length ≤ 3000
    case neg =>
      have hd' : decide (acc more more.length ≤ 3000) = false := by simpa using hf'
      go_enter Try.func6, Try.ntmps6
      go_wp2_with (first
        | (go_at_call_of 14 (Value.slice A n c); (refine hfw.out.mono ?_; rintro e w1 ⟨hp, rfl⟩; unfold FewPost at hp; subst hp; rw [hd]))
        | (go_at_call_of 14 (Value.slice A' n' c'); (refine hfw'.out.mono ?_; rintro e w1 ⟨hp, rfl⟩; unfold FewPost at hp; subst hp; rw [hd']))
        | (go_at_call 9; refine (works_any _).mono ?_; rintro e w1 ⟨rfl, hb1⟩)
        | fail)
      go_ret
      exact ⟨rfl, hb1⟩
    case pos =>
      have hd' : decide (acc more more.length ≤ 3000) = true := by simpa using hf'
      obtain ⟨hn3', hsz'⟩ := few_facts hf'
      rw [hl'.out] at hn3'
      obtain ⟨nn, hnn⟩ : ∃ nn, n' + n = nn := ⟨_, rfl⟩
      have HNN := hide hnn
      have hwn : IntKind.i64.wrap ((n : Int) + (n' : Int)) = (nn : Int) := by rw [IntKind.wrap_i64]; omega
      have hpl := place_any nn at' ⟨by omega, by omega⟩ hat
      have hsp := span_any nn at' at' ⟨by omega, by omega⟩ hat hat
      have hps := hide (span_place nn at')
      have hpb := hide (show -9223372036854775808 ≤ placeA nn at' + 1 ∧ placeA nn at' + 1 ≤ 9223372036854775807 from by
        have := hat.1
        have := hat.2
        unfold placeA placeOk placeI
        (repeat' split) <;> simp_all <;> omega)
      generalize placeA nn at' = pa at *
      generalize placeOk nn at' = ok at *
      generalize spanA nn at' at' = sa at *
      generalize spanB nn at' at' = sb at *
      have hrevl : (more.reverse ++ l).length = nn := by rw [List.length_append, List.length_reverse, hl.out, hl'.out]; exact hnn
      clear hnn
      go_enter Try.func6, Try.ntmps6
      go_upto_region 10 with (first
        | (go_at_call_of 14 (Value.slice A n c); (refine hfw.out.mono ?_; rintro e w1 ⟨hp, rfl⟩; unfold FewPost at hp; subst hp; rw [hd]))
        | (go_at_call_of 14 (Value.slice A' n' c'); (refine hfw'.out.mono ?_; rintro e w1 ⟨hp, rfl⟩; unfold FewPost at hp; subst hp; rw [hd']))
        | (go_at_call 15
           go_must (
           refine (new_any A n c l w hr (by omega) (fun s h => by have := hsz s h; omega)).mono ?_
           rintro e w1 ⟨g, rfl, hD1, hb1⟩
           have hr1' := hr'.below hb1))
        | (go_at_call 20
           go_must (
           refine (pushFront_any A' n' c' more w1 hD1.k hb1.size (hr1'.more hb1.size) (fun h b o e => by obtain ⟨b2, o2, e2, hlt, _⟩ := hr1'.2 h; rw [e2] at e; cases e; exact .inl hlt) (by rw [hl.out]; omega) (fun s h => by have := hsz' s h; omega)).mono ?_
           rintro e w2 ⟨rfl, hD2, hb2, _⟩
           have hD2' := hD2.q
           have hbw2 := hb1.trans hb2
           obtain ⟨A0, len0, cap0, first0, ring0, hx0⟩ := id hD2'
           have hBk0 := hx0.1
           rw [hrevl] at hBk0))
        | (go_at_call 21; refine (len_any g _ _ nn w2 hBk0).mono ?_; rintro e w2' ⟨rfl, rfl⟩)
        | (go_at_call 18; refine (num_any 0 _).mono ?_; rintro e w2' ⟨rfl, rfl⟩)
        | (go_at_call 12; refine (hpl _).mono ?_; rintro e w2' ⟨rfl, rfl⟩)
        | (go_at_call 10; refine (hsp _).mono ?_; rintro e w2' ⟨rfl, rfl⟩)
        | fail)
      have hfin : (ok = true ∧ sa = pa ∧ sb = pa + 1) ∨ ok = false := by
        cases ok with
        | false => exact .inr rfl
        | true => exact .inl ⟨rfl, hps.out rfl⟩
      clear hpl hsp hfw hfw' hd hd' hf hf'
      have hwp := hpb.out
      have hwp2 : IntKind.i64.wrap (pa + 1) = pa + 1 := IntWalk.i64_in _ hpb.out
      rcases hfin with ⟨rfl, rfl, rfl⟩ | rfl
      all_goals
        have hw1 : IntKind.i64.wrap ((n' : Int) - 1) = (n' : Int) - 1 := IntWalk.i64_in _ (by omega)
        go_upto_region 13 with (fail)
        clear hwp hwp2
        go_loopw [15, 16, 17] (fun i _ _ wr => ∃ t : Nat, t ≤ n' ∧ i = .int .i64 ((t : Int) - 1) ∧ DQ w.heap.size wr g ((more.take t).reverse ++ l) ∧ Below w.heap.size w wr)
          (fun i _ _ _ => (intOf i + 1).toNat)
        case atStart => exact ⟨n', by omega, rfl, by rw [List.take_of_length_le (by rw [hl'.out]; omega)]; exact hD2', hbw2⟩
        case round =>
          obtain ⟨t, ht, rfl, hD, hbw⟩ := hrel
          by_cases htz : 0 < t
          · have htI : (0 : Int) ≤ (t : Int) - 1 := by omega
            have htn : (t : Int) - 1 < (n' : Int) := by omega
            have htt : ((t : Int) - 1).toNat = t - 1 := by omega
            have hw2 : IntKind.i64.wrap ((t : Int) - 1 - 1) = (t : Int) - 1 - 1 := IntWalk.i64_in _ (by omega)
            obtain ⟨b, o, s, rfl, hb, hss, hcell⟩ := hr'.text (k := t - 1) (by omega)
            have hspl : (more.take t).reverse ++ l = s :: ((more.take (t - 1)).reverse ++ l) := by
              have := rev_take hss
              rw [show t - 1 + 1 = t by omega] at this
              rw [this]; rfl
            have hpop := popFront_any s _ wr hD hspl
            go_wp2_with (first
              | (go_at_call 16
                 go_must (
                 refine hpop.mono ?_
                 rintro e w5 ⟨rfl, hD5, hb5⟩
                 have hbw5 := hbw.trans hb5
                 have hcell5 : w5.cell? ⟨b, o + (t - 1), none⟩ = some (.string s) := (hbw5.cell (p := ⟨b, o + (t - 1), none⟩) hb).trans hcell))
              | fail)
            go_roundw
            case rel => exact ⟨t - 1, by omega, by congr 1; omega, hD5, hbw5⟩
            case measure => simp [intOf]; omega
          · have htI : ¬ (0 : Int) ≤ (t : Int) - 1 := by omega
            obtain rfl : t = 0 := by omega
            rw [List.take_zero, List.reverse_nil, List.nil_append] at hD
            have hr2 := hide (hr'.below hbw)
            have hr2b := hide (hr.below hbw)
            have hwn1 : IntKind.i64.wrap ((n : Int) - 1) = (n : Int) - 1 := IntWalk.i64_in _ (by omega)
            go_wp2_with (first
              | (go_at_call 20
                 go_must (
                 refine (pushFront_any A' n' c' more wr hD.k hbw.size (hr2.out.more hbw.size) (fun h b o e => by obtain ⟨b2, o2, e2, hlt, _⟩ := hr'.2 h; rw [e2] at e; cases e; exact .inl hlt) (by rw [hl.out]; omega) (fun s h => by have := hsz' s h; omega)).mono ?_
                 rintro e w6 ⟨rfl, hD6, hb6, _⟩
                 have hD6' := hD6.q
                 have hbw6 := hbw.trans hb6))
              | fail)
            clear ht
            go_loopw [19, 20, 21] (fun i _ _ wr => ∃ t : Nat, t ≤ n ∧ i = .int .i64 ((t : Int) - 1) ∧ DQ w.heap.size wr g (more.reverse ++ l.take t) ∧ Below w.heap.size w wr)
              (fun i _ _ _ => (intOf i + 1).toNat)
            case atStart => exact ⟨n, by omega, rfl, by rw [List.take_of_length_le (by rw [hl.out]; omega)]; exact hD6', hbw6⟩
            case round =>
              clear hD hbw
              obtain ⟨t, ht, rfl, hD, hbw⟩ := hrel
              by_cases htz : 0 < t
              · have htI : (0 : Int) ≤ (t : Int) - 1 := by omega
                have htn : (t : Int) - 1 < (n : Int) := by omega
                have htt : ((t : Int) - 1).toNat = t - 1 := by omega
                have hw2 : IntKind.i64.wrap ((t : Int) - 1 - 1) = (t : Int) - 1 - 1 := IntWalk.i64_in _ (by omega)
                obtain ⟨b, o, s, rfl, hb, hss, hcell⟩ := hr.text (k := t - 1) (by omega)
                have hspl : more.reverse ++ l.take t = (more.reverse ++ l.take (t - 1)) ++ [s] := by
                  have := take_snoc0 hss
                  rw [show t - 1 + 1 = t by omega] at this
                  rw [this, List.append_assoc]
                have hpop := popBack_any s _ wr hD hspl
                go_wp2_with (first
                  | (go_at_call 17
                     go_must (
                     refine hpop.mono ?_
                     rintro e w5 ⟨rfl, hD5, hb5⟩
                     have hbw5 := hbw.trans hb5
                     have hcell5 : w5.cell? ⟨b, o + (t - 1), none⟩ = some (.string s) := (hbw5.cell (p := ⟨b, o + (t - 1), none⟩) hb).trans hcell))
                  | fail)
                go_roundw
                case rel => exact ⟨t - 1, by omega, by congr 1; omega, hD5, hbw5⟩
                case measure => simp [intOf]; omega
              · have htI : ¬ (0 : Int) ≤ (t : Int) - 1 := by omega
                obtain rfl : t = 0 := by omega
                rw [List.take_zero, List.append_nil] at hD
                go_wp2_with fail
                clear ht htz htI
                go_loopw [22, 23, 24] (fun i _ _ wr => ∃ t : Nat, t ≤ n' ∧ i = .int .i64 (t : Int) ∧ DQ w.heap.size wr g (more.drop t).reverse ∧ Below w.heap.size w wr)
                  (fun i _ _ _ => ((n' : Int) - intOf i).toNat)
                case atStart => exact ⟨0, by omega, rfl, hD, hbw⟩
                case round =>
                  clear hD hbw
                  obtain ⟨t, ht, rfl, hD, hbw⟩ := hrel
                  by_cases htz : t < n'
                  · have htI : (t : Int) < (n' : Int) := by omega
                    have hw2 : IntKind.i64.wrap ((t : Int) + 1) = (t : Int) + 1 := IntWalk.i64_in _ (by omega)
                    obtain ⟨b, o, s, rfl, hb, hss, hcell⟩ := hr'.text (k := t) (by omega)
                    have hpop := popBack_any s _ wr hD (rev_drop hss)
                    go_wp2_with (first
                      | (go_at_call 17
                         go_must (
                         refine hpop.mono ?_
                         rintro e w5 ⟨rfl, hD5, hb5⟩
                         have hbw5 := hbw.trans hb5
                         have hcell5 : w5.cell? ⟨b, o + t, none⟩ = some (.string s) := (hbw5.cell (p := ⟨b, o + t, none⟩) hb).trans hcell))
                      | fail)
                    go_roundw
                    case rel => exact ⟨t + 1, by omega, by simp, hD5, hbw5⟩
                    case measure => simp [intOf]; omega
                  · obtain rfl : t = n' := by omega
                    rw [List.drop_of_length_le (by rw [hl'.out]; omega), List.reverse_nil] at hD
                    obtain ⟨A7, len7, cap7, first7, ring7, hx7⟩ := id hD
                    have hBk7 := hx7.1
                    rw [List.length_nil] at hBk7
                    go_wp2_with (first
                      | (go_at_call 18; refine (num_any 0 _).mono ?_; rintro e w2 ⟨rfl, rfl⟩)
                      | (go_at_call 21; refine (len_any g _ _ 0 wr hBk7).mono ?_; rintro e w2' ⟨rfl, rfl⟩)
                      | (go_at_call 9; refine (works_any wr).mono ?_; rintro e w4 ⟨rfl, hb4⟩)
                      | fail)
                    go_ret
                    exact ⟨ret_bool rfl, hbw.trans (hb4.mono hbw.size)⟩
end Go.Proofs.Ytlglelgnpkdnbaa
