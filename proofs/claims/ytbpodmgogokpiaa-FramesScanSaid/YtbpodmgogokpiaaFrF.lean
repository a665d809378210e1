/- Which texts a body holds (plain); the walk of texts (package frames). Conditions: those of each theorem. -/
import Derived.Test.YtbpodmgogokpiaaFrE
namespace Go.Proofs.Ytbpodmgogokpiaa
open Go.RowKit
set_option linter.unusedVariables false

/-- so many texts at the beginning of bytes, and what is left -/
def textsN : Nat → List UInt8 → Option (List ByteArray × List UInt8)
  | 0, r => some ([], r)
  | k + 1, r => if r.length < 4 then none else if r.length - 4 < of4 r then none else
      match textsN k ((r.drop 4).drop (of4 r)) with
      | none => none
      | some (l, x) => some (⟨((r.drop 4).take (of4 r)).toArray⟩ :: l, x)
def textsB (b : List UInt8) : Option (List ByteArray) :=
  if b.length < 4 then none else if 65536 < of4 b then none else
  match textsN (of4 b) (b.drop 4) with
  | none => none
  | some (l, x) => if x = [] then some l else none
/-- what is known in the middle -/
def Mid (n t : Nat) (r0 : List UInt8) (acc : List ByteArray) (r : List UInt8) : Prop :=
  textsN n r0 = match textsN (n - t) r with
    | none => none
    | some (l, x) => some (acc ++ l, x)
theorem mid_start (n : Nat) (r : List UInt8) : Mid n 0 r [] r := by
  unfold Mid
  rw [Nat.sub_zero]
  cases textsN n r with
  | none => rfl
  | some p => rfl
theorem mid_none {n t : Nat} {r0 r : List UInt8} {acc : List ByteArray} (h : Mid n t r0 acc r) (ht : t < n) (hb : r.length < 4 ∨ r.length - 4 < of4 r) : textsN n r0 = none := by
  unfold Mid at h
  rw [h, show n - t = (n - t - 1) + 1 by omega]
  unfold textsN
  by_cases h4 : r.length < 4
  · rw [if_pos h4]
  · rw [if_neg h4, if_pos (by omega)]
theorem mid_next {n t : Nat} {r0 r : List UInt8} {acc : List ByteArray} (h : Mid n t r0 acc r) (ht : t < n) (h4 : ¬ r.length < 4) (hl : ¬ r.length - 4 < of4 r) : Mid n (t + 1) r0 (acc ++ [⟨((r.drop 4).take (of4 r)).toArray⟩]) ((r.drop 4).drop (of4 r)) := by
  unfold Mid at h ⊢
  rw [h, show n - t = (n - (t + 1)) + 1 by omega]
  conv => lhs; rw [textsN]
  rw [if_neg h4, if_neg hl]
  cases textsN (n - (t + 1)) ((r.drop 4).drop (of4 r)) with
  | none => rfl
  | some p => simp
theorem mid_end {n : Nat} {r0 r : List UInt8} {acc : List ByteArray} (h : Mid n n r0 acc r) : textsN n r0 = some (acc, r) := by
  unfold Mid at h
  rw [h, Nat.sub_self]
  simp [textsN]

theorem own_same {w w' : World} {base : Nat} {e : TypeId} {size : Nat} {v : Value} {n : Nat} {xs : List Value} (h : w.ownsRow base e size v n xs) (hk : ∀ j, v.ownBlock = some j → w'.heap[j]? = w.heap[j]?) : w'.ownsRow base e size v n xs := by
  obtain ⟨h1, h2⟩ := h
  refine ⟨h1, ?_⟩
  rcases h2 with h2 | ⟨g, cap, cur, rfl, b, c, d⟩
  · exact .inl h2
  · exact .inr ⟨g, cap, cur, rfl, b, (hk g rfl).trans c, d⟩

/-- what texts does: it gives up, or hands back the list -/
def TextsPost (b : List UInt8) (H : Nat) (x : Ending) (w' : World) : Prop :=
  match textsB b with
  | none => x = .panicked (failC 121)
  | some l => ∃ v, x = .returned v ∧ w'.ownsRow H 9 1 v l.length (svs l)
theorem textsPost_none {b : List UInt8} {H : Nat} {w' : World} (h : textsB b = none) : TextsPost b H (.panicked (failC 121)) w' := by
  unfold TextsPost; rw [h]
theorem textsPost_some {b : List UInt8} {H : Nat} {v : Value} {l : List ByteArray} {w' : World} (h : textsB b = some l) (ho : w'.ownsRow H 9 1 v l.length (svs l)) : TextsPost b H (.returned v) w' := by
  unfold TextsPost; rw [h]; exact ⟨v, rfl, ho⟩

set_option maxHeartbeats 4000000 in
theorem texts_any (rg : Nat) (A : Option Addr) (n c : Nat) (b : List UInt8) (w : World) (hr : Reads w w.heap.size 1 A n (bvs b)) (hc : n ≤ c) (hcm : c ≤ maxLen) (hn : n ≤ 100000000) :
    Calls Try.prog 49 #[.pointer (some ⟨rg, 0, none⟩), .slice A n c] w fun x w' => TextsPost b w.heap.size x w' ∧ Below w.heap.size w w' := by
  have hl := hr.blen
  have HL := hide hl
  clear hl
  have hB1 := Blk.new w 60 #[.slice A n c, .int .i64 121]
  have hb1 : Below w.heap.size w (w.alloc (.cells #[.slice A n c, .int .i64 121] 60)) := (Below.refl _ w).alloc (Nat.le_refl _) _
  have hr1 := hr.below hb1
  by_cases h4 : n < 4
  · have hx : textsB b = none := by unfold textsB; rw [if_pos (by rw [HL.out]; exact h4)]
    have HX := hide hx
    clear hx
    go_enter Try.func49, Try.ntmps49
    go_wp2_with (first
      | (go_at_call 47
         go_must (
         refine (number_no A n c 121 _ hB1 rfl rfl h4).mono ?_
         rintro e w2 ⟨rfl, hb2⟩
         have hbw2 := hb1.trans (hb2.mono (by simp))))
      | fail)
    exact ⟨rfl, textsPost_none HX.out, hbw2⟩
  · have HN := hide (number_yes A n c 121 b _ hB1 rfl rfl (by omega) hc hcm hr1 (Nat.le_refl _))
    by_cases hbig : 65536 < of4 b
    · have hx : textsB b = none := by unfold textsB; rw [if_neg (by rw [HL.out]; exact h4), if_pos hbig]
      have HX := hide hx
      clear hx
      have hD : decide (((of4 b : Nat) : Int) ≤ 65536) = false := by simp; omega
      go_enter Try.func49, Try.ntmps49
      go_wp2_with (first
        | (go_at_call 47
           go_must (
           refine HN.out.mono ?_
           rintro e w2 ⟨A2, c2, rfl, hB2, hc21, hc22, hr2, hb2, hz2, hk2⟩
           have hbw2 := hb1.trans hb2))
        | (go_at_call 48
           go_must (
           refine (must_no 121 _).mono ?_
           rintro e w3 ⟨rfl, rfl⟩))
        | fail)
      exact ⟨rfl, textsPost_none HX.out, hbw2⟩
    · have hI : ((of4 b : Nat) : Int) ≤ 65536 := by omega
      have HT : Hid (textsB b = match textsN (of4 b) (b.drop 4) with | none => none | some (l, x) => if x = [] then some l else none) := by
        show _ = _
        unfold textsB
        rw [if_neg (by rw [HL.out]; exact h4), if_neg hbig]
      have hN6 : of4 b ≤ 65536 := by omega
      have hD : decide (((of4 b : Nat) : Int) ≤ 65536) = true := by simp; omega
      go_enter Try.func49, Try.ntmps49
      go_wp2_with (first
        | (go_at_call 47
           go_must (
           refine HN.out.mono ?_
           rintro e w2 ⟨A2, c2, rfl, hB2, hc21, hc22, hr2, hb2, hz2, hk2⟩
           have hbw2 := hb1.trans hb2))
        | (go_at_call 48
           go_must (
           refine (must_yes 121 _).mono ?_
           rintro e w3 ⟨rfl, rfl⟩))
        | fail)
      have hB2' : Blk w2 w.heap.size 60 #[.slice A2 (n - 4) c2, .int .i64 121] := hB2
      have hz2' : w.heap.size + 1 ≤ w2.heap.size := by rw [hz2]; simp
      clear hb2 hk2 hb1 hr1 hB1 HN hz2 hB2 hI hD
      generalize hN : of4 b = N at *
      clear hN
      go_loopw [7, 15] (fun v i wr => ∃ (t n' c' : Nat) (A' : Option Addr) (r : List UInt8) (acc : List ByteArray), t ≤ N ∧ i = .int .i64 t ∧ Blk wr w.heap.size 60 #[.slice A' n' c', .int .i64 121] ∧ n' ≤ c' ∧ c' ≤ maxLen ∧ n' ≤ n ∧ Reads wr w.heap.size 1 A' n' (bvs r) ∧
          wr.ownsRow (w.heap.size + 1) 9 1 v t (svs acc) ∧ acc.length = t ∧ Mid N t (b.drop 4) acc r ∧ Below w.heap.size w wr ∧ w.heap.size + 1 ≤ wr.heap.size)
        (fun _ i _ => N - (intOf i).toNat)
      case atStart => exact ⟨0, n - 4, c2, A2, b.drop 4, [], by omega, rfl, hB2', hc21, hc22, by omega, hr2, World.ownsRow_nil _ _ _ _, rfl, mid_start _ _, hbw2, hz2'⟩
      case round =>
        clear hbw2 hr2 hB2' hc21 hc22 hz2'
        obtain ⟨t, n', c', A', r, acc, ht, rfl, hB, hnc, hcm', hnn, hrd, hown, hal, hmid, hbw, hz⟩ := hrel
        have HAL := hide hal
        have HMID := hide hmid
        have HRL := hide hrd.blen
        clear hal hmid
        by_cases htn : t < N
        · have htI : (t : Int) < (N : Int) := by omega
          have hw2 : IntKind.i64.wrap ((t : Int) + 1) = (t : Int) + 1 := IntWalk.i64_in _ (by omega)
          by_cases hn4 : n' < 4
          · have hx : textsB b = none := by rw [HT.out, mid_none HMID.out htn (.inl (by rw [HRL.out]; exact hn4))]
            have HX := hide hx
            clear hx
            go_wp2_with (first
              | (go_at_call 47
                 go_must (
                 refine (number_no A' n' c' 121 wr hB rfl rfl hn4).mono ?_
                 rintro e w3 ⟨rfl, hb3⟩))
              | fail)
            exact ⟨rfl, textsPost_none HX.out, hbw.trans (hb3.mono (by omega))⟩
          · have HN := hide (number_yes A' n' c' 121 r wr hB rfl rfl (by omega) hnc hcm' hrd (Nat.le_refl _))
            by_cases hm : n' - 4 < of4 r
            · have hx : textsB b = none := by rw [HT.out, mid_none HMID.out htn (.inr (by rw [HRL.out]; exact hm))]
              have HX := hide hx
              clear hx
              generalize of4 r = m at *
              go_wp2_with (first
                | (go_at_call 47
                   go_must (
                   refine HN.out.mono ?_
                   rintro e w3 ⟨A3, c3, rfl, hB3, hc31, hc32, hr3, hb3, hz3, hk3⟩
                   have hB3' : Blk w3 w.heap.size 60 #[.slice A3 (n' - 4) c3, .int .i64 121] := hB3))
                | (go_at_call 46
                   go_must (
                   refine (take_no A3 (n' - 4) c3 121 m w3 hB3' rfl rfl hm).mono ?_
                   rintro e w4 ⟨rfl, hb4⟩))
                | fail)
              exact ⟨rfl, textsPost_none HX.out, (hbw.trans hb3).trans (hb4.mono (by omega))⟩
            · have HM2 := hide (mid_next HMID.out htn (by rw [HRL.out]; exact hn4) (by rw [HRL.out]; exact hm))
              generalize of4 r = m at *
              have hne : u7.ownBlock ≠ some w.heap.size := fun e => by have := (hown.lt _ e).1; omega
              have hsm : m ≤ 100000000 := by omega
              go_wp2_with (first
                | (go_at_call 47
                   go_must (
                   refine HN.out.mono ?_
                   rintro e w3 ⟨A3, c3, rfl, hB3, hc31, hc32, hr3, hb3, hz3, hk3⟩
                   have hB3' : Blk w3 w.heap.size 60 #[.slice A3 (n' - 4) c3, .int .i64 121] := hB3
                   have hown3 := own_same hown (fun j e => hk3 j (fun e' => hne (by rw [e, e'])))
                   have hz3' : w.heap.size + 1 ≤ w3.heap.size := by omega
                   clear hB3 hk3 hz3))
                | (go_at_call 46
                   go_must (
                   refine (take_yes A3 (n' - 4) c3 121 m (r.drop 4) w3 hB3' rfl rfl (by omega) hc31 hc32 hr3 (Nat.le_refl _)).mono ?_
                   rintro e w4 ⟨A4, c4, rfl, hB4, hc41, hc42, hr4, hr4t, hb4, hz4, hk4⟩
                   have hB4' : Blk w4 w.heap.size 60 #[.slice A4 (n' - 4 - m) c4, .int .i64 121] := hB4
                   have hown4 := own_same hown3 (fun j e => hk4 j (fun e' => hne (by rw [e, e'])))
                   have hcv := run_bytes_str (P := Try.prog) 25 9 5 Try.underlying25 Try.underlying5 Try.underlying9 hr4t c3
                   have hbw4 := (hbw.trans hb3).trans hb4
                   have hz5 : w.heap.size + 1 ≤ w4.heap.size := by omega
                   clear hz4
                   have hone := Reads.one_new w4 (.string ⟨((r.drop 4).take m).toArray⟩) 9
                   clear hB4 hk4))
                | (refine wpList_append rfl (.tmp 17) (.tmp 21) 22 rfl str_ok Try.underlying22 (hown4.alloc _) rfl hone rfl (svs_one [_]) (by unfold maxLen; omega) (by omega) (by simp; omega) ?_
                   intro v5 w5 hown5 hb5 hg5 _
                   have hB5 := (hB4'.alloc (.cells #[.string ⟨((r.drop 4).take m).toArray⟩] 9)).below hb5 (by omega)
                   have hb45 : Below w.heap.size w4 w5 := ((Below.refl _ w4).alloc (by omega) _).trans (hb5.mono (by omega))
                   have hr5 := hr4.below hb45
                   have hz6 := hb5.size
                   rw [World.size_alloc] at hz6
                   have hbw5 := hbw4.trans hb45)
                | fail)
              go_roundw
              case rel =>
                refine ⟨t + 1, n' - 4 - m, c4, A4, (r.drop 4).drop m, acc ++ [⟨((r.drop 4).take m).toArray⟩], by omega, by simp, hB5, hc41, hc42, by omega, hr5, ?_, by rw [List.length_append, HAL.out]; rfl, HM2.out, hbw5, by omega⟩
                rw [svs_append]
                exact hown5
              case measure => simp [intOf]; omega
        · have htI : ¬ (t : Int) < (N : Int) := by omega
          obtain rfl : t = N := by omega
          have c0 := hB.cell 0
          rw [show (#[Value.slice A' n' c', .int .i64 121] : Array Value)[0]? = some (.slice A' n' c') from rfl] at c0
          have HE : Hid (textsB b = if r = [] then some acc else none) := by
            show _ = _
            rw [HT.out, mid_end HMID.out]
          by_cases hn0 : n' = 0
          · have hx : textsB b = some acc := by
              rw [HE.out, if_pos (List.eq_nil_of_length_eq_zero (by rw [HRL.out]; exact hn0))]
            have HX := hide hx
            clear hx
            subst hn0
            go_wp2_with (first
              | (go_at_call 48
                 go_must (
                 refine (must_yes 121 _).mono ?_
                 rintro e w3 ⟨rfl, rfl⟩))
              | fail)
            go_ret
            refine ⟨textsPost_some HX.out ?_, hbw⟩
            rw [HAL.out]
            exact own_base hown (by omega)
          · have hx : textsB b = none := by
              rw [HE.out, if_neg (fun e => hn0 (by rw [← HRL.out, e]; rfl))]
            have HX := hide hx
            clear hx
            have hD : ((n' : Int) == 0) = false := by simp; omega
            go_wp2_with (first
              | (go_at_call 48
                 go_must (
                 refine (must_no 121 _).mono ?_
                 rintro e w3 ⟨rfl, rfl⟩))
              | fail)
            exact ⟨rfl, textsPost_none HX.out, hbw⟩
end Go.Proofs.Ytbpodmgogokpiaa
