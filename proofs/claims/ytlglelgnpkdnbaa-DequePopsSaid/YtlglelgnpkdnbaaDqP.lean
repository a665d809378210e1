/- The walk of the law DequePops: it returns true at every input. Conditions: no text takes more than the form's reach. -/
import Derived.Test.YtlglelgnpkdnbaaDqZ
import Derived.Test.YtlglelgnpkdnbaaDqLawA
namespace Go.Proofs.Ytlglelgnpkdnbaa
open Go.RowKit
set_option linter.unusedVariables false

set_option maxHeartbeats 8000000 in
theorem dequePops_any (A : Option Addr) (n c : Nat) (l : List ByteArray) (fi bi : Int) (hfi : I64 fi) (hbi : I64 bi) (w : World) (hr : Reads w w.heap.size 1 A n (svs l)) (hc : n ≤ c) (hcm : c ≤ maxLen) (hs : ∀ s ∈ l, s.size ≤ 140737488351232) :
    Calls Try.prog 5 #[.slice A n c, .int .i64 fi, .int .i64 bi] w fun e w' => e = .returned (.bool true) ∧ Below w.heap.size w w' := by
  have hl := hide hr.slen
  have hfw := hide (few_any A n c l w hr (by omega) hs)
  by_cases hf : acc l l.length ≤ 3000
  case neg =>
    have hd : decide (acc l l.length ≤ 3000) = false := by simpa using hf
    go_enter Try.func5, Try.ntmps5
    go_wp2_with (first
      | (go_at_call 14; refine hfw.out.mono ?_; rintro e w1 ⟨hp, rfl⟩; unfold FewPost at hp; subst hp; rw [hd])
      | (go_at_call 9; refine (works_any _).mono ?_; rintro e w1 ⟨rfl, hb1⟩)
      | fail)
    go_ret
    exact ⟨rfl, hb1⟩
  case pos =>
    have hd : decide (acc l l.length ≤ 3000) = true := by simpa using hf
    obtain ⟨hn3, hsz⟩ := few_facts hf
    rw [hl.out] at hn3
    by_cases h1 : 400 < fi
    · go_enter Try.func5, Try.ntmps5
      go_wp2_with (first
        | (go_at_call 14; refine hfw.out.mono ?_; rintro e w1 ⟨hp, rfl⟩; unfold FewPost at hp; subst hp; rw [hd])
        | (go_at_call 9; refine (works_any _).mono ?_; rintro e w1 ⟨rfl, hb1⟩)
        | fail)
      go_ret
      exact ⟨rfl, hb1⟩
    · by_cases h2 : 400 < bi
      · go_enter Try.func5, Try.ntmps5
        go_wp2_with (first
          | (go_at_call 14; refine hfw.out.mono ?_; rintro e w1 ⟨hp, rfl⟩; unfold FewPost at hp; subst hp; rw [hd])
          | (go_at_call 9; refine (works_any _).mono ?_; rintro e w1 ⟨rfl, hb1⟩)
          | fail)
        go_ret
        exact ⟨rfl, hb1⟩
      · go_enter Try.func5, Try.ntmps5
        go_wp2_with (first
          | (go_at_call 14; refine hfw.out.mono ?_; rintro e w1 ⟨hp, rfl⟩; unfold FewPost at hp; subst hp; rw [hd])
          | (go_at_call 15
             go_must (
             refine (new_any A n c l w hr (by omega) (fun s h => by have := hsz s h; omega)).mono ?_
             rintro e w1 ⟨g, rfl, hD1, hb1⟩))
          | fail)
        go_loopw [9, 10, 11, 12] (fun v i _ _ wr => ∃ (t : Nat) (cur : List ByteArray) (m : Nat) (A' : Option Addr) (c' : Nat), i = .int .i64 t ∧ t ≤ 401 ∧ v = .slice A' m c' ∧ cur.length = m ∧ m ≤ c' ∧ c' ≤ maxLen ∧ m ≤ 300 ∧ Reads wr w.heap.size 1 A' m (svs cur) ∧ DQ w.heap.size wr g cur ∧ Below w.heap.size w wr)
          (fun _ i _ _ _ => (fi - intOf i).toNat)
        case atStart => exact ⟨0, l, n, A, c, rfl, by omega, rfl, hl.out, hc, hcm, hn3, hr.below hb1, hD1, hb1⟩
        case round =>
          obtain ⟨t, cur, m, A', c', rfl, ht, rfl, hcl, hmc, hc'm, hm3, hrd, hD, hbw⟩ := hrel
          by_cases htf : (t : Int) < fi
          · have hw2 : IntKind.i64.wrap ((t : Int) + 1) = (t : Int) + 1 := IntWalk.i64_in _ (by omega)
            cases cur with
            | nil =>
              obtain rfl : m = 0 := by simpa using hcl.symm
              rcases A' with _ | ⟨b, o, sp⟩
              · go_wp2_with (first
                  | (go_at_call 16; refine (popFront_none wr hD).mono ?_; rintro e w2 ⟨rfl, rfl⟩)
                  | fail)
                go_roundw
                case rel => exact ⟨t + 1, [], 0, _, _, by simp, by omega, rfl, rfl, by omega, by omega, by omega, Reads.none_ _ _ _ _, hD, hbw⟩
                case measure => simp [intOf]; omega
              · by_cases hc0 : c' = 0
                · subst hc0
                  go_wp2_with (first
                    | (go_at_call 16; refine (popFront_none wr hD).mono ?_; rintro e w2 ⟨rfl, rfl⟩)
                    | fail)
                  go_roundw
                  case rel => exact ⟨t + 1, [], 0, _, _, by simp, by omega, rfl, rfl, by omega, by omega, by omega, Reads.none_ _ _ _ _, hD, hbw⟩
                  case measure => simp [intOf]; omega
                · go_wp2_with (first
                    | (go_at_call 16; refine (popFront_none wr hD).mono ?_; rintro e w2 ⟨rfl, rfl⟩)
                    | fail)
                  go_roundw
                  case rel => exact ⟨t + 1, [], 0, _, _, by simp, by omega, rfl, rfl, by omega, by omega, by omega, Reads.none_ _ _ _ _, hD, hbw⟩
                  case measure => simp [intOf]; omega
            | cons s r =>
              have hr1 : r.length = m - 1 := by simp at hcl; omega
              have hm0 : 0 < m := by simp at hcl; omega
              obtain ⟨b, o, s0, rfl, hb, hs0, hcell⟩ := hrd.text hm0
              obtain rfl : s = s0 := by simpa using hs0
              rw [Nat.add_zero] at hcell
              have hm0I : (0 : Int) < (m : Int) := by omega
              have hpop := popFront_any s r wr hD rfl
              have hm1 : ¬ (m : Int) < 1 := by omega
              have hm1' : (1 : Int) ≤ (m : Int) := by omega
              have hmx : ((m - 1 : Nat) : Int) = (m : Int) - 1 := by omega
              by_cases hc1 : c' = 1
              · obtain rfl : m = 1 := by omega
                have hrn : r = [] := List.eq_nil_of_length_eq_zero hr1
                subst hrn hc1
                go_wp2_with (first
                  | (go_at_call 16
                     go_must (
                     refine hpop.mono ?_
                     rintro e w2 ⟨rfl, hD2, hb2⟩
                     have hcell2 : w2.cell? ⟨b, o, none⟩ = some (.string s) := (hb2.cell (p := ⟨b, o, none⟩) hb).trans hcell
                     have hrd2 := hrd.below hb2
                     have hbw2 := hbw.trans hb2))
                  | fail)
                go_roundw
                case rel => exact ⟨t + 1, [], 0, _, _, by simp, by omega, rfl, rfl, by omega, by omega, by omega, Reads.none_ _ _ _ _, hD2, hbw2⟩
                case measure => simp [intOf]; omega
              · have hcut := hrd.cut (k := 1) (m := m - 1) (cap := c') (by omega) hmc
                go_wp2_with (first
                  | (go_at_call 16
                     go_must (
                     refine hpop.mono ?_
                     rintro e w2 ⟨rfl, hD2, hb2⟩
                     have hcell2 : w2.cell? ⟨b, o, none⟩ = some (.string s) := (hb2.cell (p := ⟨b, o, none⟩) hb).trans hcell
                     have hrd2 := hrd.below hb2
                     have hbw2 := hbw.trans hb2))
                  | fail)
                have hcut2 := hrd2.cut (k := 1) (m := m - 1) (cap := c') (by omega) hmc
                rw [if_neg hc1, Option.map_some, add_lit, show ((svs (s :: r)).drop 1).take (m - 1) = svs r by rw [← hr1]; simp only [svs, List.map_cons, List.drop_succ_cons, List.drop_zero]; exact List.take_of_length_le (by simp)] at hcut2
                go_roundw
                case rel => exact ⟨t + 1, r, m - 1, _, c' - 1, by simp, by omega, rfl, hr1, by omega, by omega, by omega, hcut2, hD2, hbw2⟩
                case measure => simp [intOf]; omega
          · go_wp2_with fail
            clear htf ht
            go_loopw [9, 13, 14, 15] (fun v i _ _ wr => ∃ (t : Nat) (cur : List ByteArray) (m : Nat) (A' : Option Addr) (c' : Nat), i = .int .i64 t ∧ t ≤ 401 ∧ v = .slice A' m c' ∧ cur.length = m ∧ m ≤ c' ∧ c' ≤ maxLen ∧ m ≤ 300 ∧ Reads wr w.heap.size 1 A' m (svs cur) ∧ DQ w.heap.size wr g cur ∧ Below w.heap.size w wr)
              (fun _ i _ _ _ => (bi - intOf i).toNat)
            case atStart => exact ⟨0, cur, m, A', c', rfl, by omega, rfl, hcl, hmc, hc'm, hm3, hrd, hD, hbw⟩
            case round =>
              clear hcl hmc hc'm hm3 hrd hD hbw
              obtain ⟨t, cur, m, A', c', rfl, ht, rfl, hcl, hmc, hc'm, hm3, hrd, hD, hbw⟩ := hrel
              by_cases htb : (t : Int) < bi
              · have hw2 : IntKind.i64.wrap ((t : Int) + 1) = (t : Int) + 1 := IntWalk.i64_in _ (by omega)
                rcases List.eq_nil_or_concat cur with hcn | ⟨r, s, hcn⟩
                · subst hcn
                  obtain rfl : m = 0 := by simpa using hcl.symm
                  rcases A' with _ | ⟨b, o, sp⟩
                  · skip
                    go_wp2_with (first
                      | (go_at_call 17; refine (popBack_none wr hD).mono ?_; rintro e w2 ⟨rfl, rfl⟩)
                      | fail)
                    go_roundw
                    case rel => exact ⟨t + 1, [], 0, _, _, by simp, by omega, rfl, rfl, by omega, by omega, by omega, Reads.none_ _ _ _ _, hD, hbw⟩
                    case measure => simp [intOf]; omega
                  · by_cases hc0 : c' = 0
                    · subst hc0
                      go_wp2_with (first
                        | (go_at_call 17; refine (popBack_none wr hD).mono ?_; rintro e w2 ⟨rfl, rfl⟩)
                        | fail)
                      go_roundw
                      case rel => exact ⟨t + 1, [], 0, _, _, by simp, by omega, rfl, rfl, by omega, by omega, by omega, Reads.none_ _ _ _ _, hD, hbw⟩
                      case measure => simp [intOf]; omega
                    · skip
                      go_wp2_with (first
                        | (go_at_call 17; refine (popBack_none wr hD).mono ?_; rintro e w2 ⟨rfl, rfl⟩)
                        | fail)
                      go_roundw
                      case rel => exact ⟨t + 1, [], 0, _, _, by simp, by omega, rfl, rfl, by omega, by omega, by omega, Reads.none_ _ _ _ _, hD, hbw⟩
                      case measure => simp [intOf]; omega
                · rw [List.concat_eq_append] at hcn
                  subst hcn
                  have hr1 : r.length = m - 1 := by simp at hcl; omega
                  have hm0 : 0 < m := by simp at hcl; omega
                  obtain ⟨b, o, s0, rfl, hb, hs0, hcell⟩ := hrd.text (k := m - 1) (by omega)
                  obtain rfl : s = s0 := by rw [← hr1, List.getElem?_concat_length] at hs0; exact Option.some.inj hs0
                  have hm0I : (0 : Int) < (m : Int) := by omega
                  have hpop := popBack_any s r wr hD rfl
                  have hwm : IntKind.i64.wrap ((m : Int) - 1) = (m : Int) - 1 := IntWalk.i64_in _ (by omega)
                  have hmx : ((m : Int) - 1).toNat = m - 1 := by omega
                  have hm1 : (1 : Int) ≤ (m : Int) := by omega
                  have hmz : (0 : Int) ≤ (m : Int) - 1 := by omega
                  have hmc2 : (m : Int) - 1 ≤ (c' : Int) := by omega
                  have hc0 : ¬ c' = 0 := by omega
                  go_wp2_with (first
                    | (go_at_call 17
                       go_must (
                       refine hpop.mono ?_
                       rintro e w2 ⟨rfl, hD2, hb2⟩
                       have hcell2 : w2.cell? ⟨b, o + (m - 1), none⟩ = some (.string s) := (hb2.cell (p := ⟨b, o + (m - 1), none⟩) hb).trans hcell
                       have hrd2 := hrd.below hb2
                       have hbw2 := hbw.trans hb2))
                    | fail)
                  have hcut2 := hrd2.cut (k := 0) (m := m - 1) (cap := c') (by omega) hmc
                  rw [if_neg hc0, Option.map_some, add_lit, Nat.add_zero, show ((svs (r ++ [s])).drop 0).take (m - 1) = svs r by rw [← hr1]; simp only [svs, List.map_append, List.drop_zero]; exact List.take_left' (by simp)] at hcut2
                  go_roundw
                  case rel => exact ⟨t + 1, r, m - 1, _, c', by simp, by omega, by congr 1; split <;> omega, hr1, by omega, by omega, by omega, hcut2, hD2, hbw2⟩
                  case measure => simp [intOf]; omega
              · go_wp2_with (first
                  | (go_at_call 18; refine (num_any 0 _).mono ?_; rintro e w2 ⟨rfl, rfl⟩)
                  | (go_at_call 19
                     go_must (
                     refine (is_any A' m c' wr hD (by omega) (hrd.more hbw.size)).mono ?_
                     rintro e w3 ⟨rfl, hb3⟩
                     have hbw3 := hbw.trans (hb3.mono hbw.size)))
                  | (go_at_call 9; refine (works_any w3).mono ?_; rintro e w4 ⟨rfl, hb4⟩)
                  | fail)
                go_ret
                exact ⟨ret_bool rfl, hbw3.trans (hb4.mono hbw3.size)⟩
end Go.Proofs.Ytlglelgnpkdnbaa
