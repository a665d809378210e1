/- What bytes begin with (plain); the walks of frame and Read (package frames). Conditions: those of each theorem. -/
import Derived.Test.YtbpodmgogokpiaaFrF
import Derived.Defers
import Derived.Recover
namespace Go.Proofs.Ytbpodmgogokpiaa
open Go.RowKit
set_option linter.unusedVariables false

def readF (b : List UInt8) : Nat ⊕ (List ByteArray × Nat) :=
  if b.length < 8 then .inl 120 else if 1048576 < of4 b then .inl 121 else if b.length - 8 < of4 b then .inl 120 else
  if ¬ sumF ((b.drop 8).take (of4 b)) = of4 (b.drop 4) then .inl 121 else
  match textsB ((b.drop 8).take (of4 b)) with
  | none => .inl 121
  | some l => .inr (l, 8 + of4 b)
theorem of4_take8 (b : List UInt8) : of4 (b.take 8) = of4 b := by
  unfold of4
  simp only [List.getD_eq_getElem?_getD, List.getElem?_take]
  simp
theorem of4_take84 (b : List UInt8) : of4 ((b.take 8).drop 4) = of4 (b.drop 4) := by
  unfold of4
  simp only [List.getD_eq_getElem?_getD, List.getElem?_drop, List.getElem?_take]
  simp

def FramePost (b : List UInt8) (H g n whole : Nat) (x : Ending) (w' : World) : Prop :=
  match readF b with
  | .inl e => x = .panicked (failC e)
  | .inr (l, k) => ∃ v A2 c2, x = .returned v ∧ w'.ownsRow H 9 1 v l.length (svs l) ∧ Blk w' g 62 #[.slice A2 (n - k) c2, .int .i64 120, .int .i64 whole]
theorem framePost_no {b : List UInt8} {H g n whole e : Nat} {w' : World} (h : readF b = .inl e) : FramePost b H g n whole (.panicked (failC e)) w' := by
  unfold FramePost; rw [h]
theorem framePost_yes {b : List UInt8} {H g n whole k c2 : Nat} {l : List ByteArray} {v : Value} {A2 : Option Addr} {w' : World} (h : readF b = .inr (l, k)) (ho : w'.ownsRow H 9 1 v l.length (svs l)) (hB : Blk w' g 62 #[.slice A2 (n - k) c2, .int .i64 120, .int .i64 whole]) : FramePost b H g n whole (.returned v) w' := by
  unfold FramePost; rw [h]; exact ⟨v, A2, c2, rfl, ho, hB⟩

set_option maxHeartbeats 4000000 in
theorem frame_any (g : Nat) (A : Option Addr) (n c whole : Nat) (b : List UInt8) (w : World) (hB : Blk w g 62 #[.slice A n c, .int .i64 120, .int .i64 whole]) (hr : Reads w g 1 A n (bvs b)) (hc : n ≤ c) (hcm : c ≤ maxLen) (hn : n ≤ 100000000) :
    Calls Try.prog 34 #[.pointer (some ⟨g, 0, none⟩)] w fun x w' => FramePost b w.heap.size g n whole x w' ∧ Below g w w' := by
  have HL := hide hr.blen
  have hgl := hB.lt
  by_cases h8 : n < 8
  · have hx : readF b = .inl 120 := by unfold readF; rw [if_pos (by rw [HL.out]; exact h8)]
    have HX := hide hx
    clear hx
    go_enter Try.func34, Try.ntmps34
    go_wp2_with (first
      | (go_at_call 46
         go_must (
         refine (take_no A n c 120 8 w hB rfl rfl h8).mono ?_
         rintro e w2 ⟨rfl, hb2⟩))
      | fail)
    exact ⟨rfl, framePost_no HX.out, hb2.mono (by omega)⟩
  · have HR1 : Hid (readF b = if 1048576 < of4 b then .inl 121 else if n - 8 < of4 b then .inl 120 else
        if ¬ sumF ((b.drop 8).take (of4 b)) = of4 (b.drop 4) then .inl 121 else
        match textsB ((b.drop 8).take (of4 b)) with
        | none => .inl 121
        | some l => .inr (l, 8 + of4 b)) := by
      show _ = _
      unfold readF
      rw [if_neg (by rw [HL.out]; exact h8), HL.out]
    have HT8 := hide (take_yes A n c 120 8 b w hB rfl rfl (by omega) hc hcm hr (Nat.le_refl _))
    have hlt1 := of4_lt b
    have hlt2 := of4_lt (b.drop 4)
    have HO1 := hide (of4_take8 b)
    have HO2 := hide (of4_take84 b)
    have hwu : IntKind.u32.wrap ((of4 (b.drop 4) : Nat) : Int) = ((of4 (b.drop 4) : Nat) : Int) := by rw [IntKind.wrap_u32]; omega
    go_enter Try.func34, Try.ntmps34
    go_wp2_with (first
      | (go_at_call 46
         go_must (
         refine HT8.out.mono ?_
         rintro e w2 ⟨A2, c2, rfl, hB2', hc21, hc22, hr2, hr2t, hb2, hz2, hk2⟩
         have hB2 : Blk w2 g 62 #[.slice A2 (n - 8) c2, .int .i64 120, .int .i64 whole] := hB2'
         have HZ2 := hide hz2
         clear hB2' hk2 hz2
         have hg2 : g < w2.heap.size := hB2.lt
         have hBh := Blk.new w2 60 #[.slice A 8 c, .int .i64 120]
         have hB2a := hB2.alloc (.cells #[.slice A 8 c, .int .i64 120] 60)
         have hb2a : Below g w (w2.alloc (.cells #[.slice A 8 c, .int .i64 120] 60)) := hb2.alloc (by omega) _
         have hr2a := hr2.alloc (by omega) (.cells #[.slice A 8 c, .int .i64 120] 60)
         have hr2ta := hr2t.alloc (by omega) (.cells #[.slice A 8 c, .int .i64 120] 60)
         have hsz2a : (w2.alloc (.cells #[.slice A 8 c, .int .i64 120] 60)).heap.size = w2.heap.size + 1 := by simp
         have HSZ := hide hsz2a
         clear hsz2a))
      | (go_at_call 47
         have _t := hBh
         go_must (
         refine (number_yes A 8 c 120 (b.take 8) _ hBh rfl rfl (by decide) (by omega) hcm (hr2ta.more (by omega)) (Nat.le_refl _)).mono ?_
         rintro e w3 ⟨A3, c3, rfl, hB3', hc31, hc32, hr3, hb3, hz3, hk3⟩
         have hBh3 : Blk w3 w2.heap.size 60 #[.slice A3 4 c3, .int .i64 120] := hB3'
         have hB3 : Blk w3 g 62 #[.slice A2 (n - 8) c2, .int .i64 120, .int .i64 whole] := hB2a.below hb3 hg2
         have hb3w : Below g w w3 := hb2a.trans (hb3.mono (by omega))
         have hr3a := hr2a.below (hb3.mono (by omega : g ≤ w2.heap.size))
         have hz3' := HSZ.out
         rw [← hz3] at hz3'
         have HZ3 := hide hz3'
         clear hz3 hk3 hB3' hz3' hBh
         rw [HO1.out]))
      | (go_at_call 47
         go_must (
         refine (number_yes A3 4 c3 120 ((b.take 8).drop 4) _ hBh3 rfl rfl (by decide) hc31 hc32 hr3 (Nat.le_refl _)).mono ?_
         rintro e w4 ⟨A4, c4, rfl, hB4', hc41, hc42, hr4, hb4, hz4, hk4⟩
         have hB4 : Blk w4 g 62 #[.slice A2 (n - 8) c2, .int .i64 120, .int .i64 whole] := hB3.below hb4 hg2
         have hb4w : Below g w w4 := hb3w.trans (hb4.mono (by omega))
         have hr4a := hr3a.below (hb4.mono (by omega : g ≤ w2.heap.size))
         clear hz4 hk4 hB4' hBh3
         rw [HO2.out]))
      | fail)
    have hbx := hb4w
    clear HT8 HO1 HO2 hwu hr2 hr2t hr2a hr2ta hr3a hr3 hr4 hB2 hB2a hb2a hb3 hb4 hB3 hb3w hb2
    generalize hm : of4 b = m at *
    generalize hwt : of4 (b.drop 4) = wt at *
    clear hm hwt
    have hz4 : g < w4.heap.size := hB4.lt
    by_cases h1 : 1048576 < m
    · have hx : readF b = .inl 121 := by rw [HR1.out, if_pos h1]
      have HX := hide hx
      clear hx
      have hD : decide ((m : Int) ≤ 1048576) = false := by simp; omega
      go_wp2_with (first
        | (go_at_call 48
           rw [hD]
           go_must (
           refine (must_no 121 _).mono ?_
           rintro e w5 ⟨rfl, rfl⟩))
        | fail)
      exact ⟨rfl, framePost_no HX.out, hbx⟩
    · have hD : decide ((m : Int) ≤ 1048576) = true := by simp; omega
      by_cases h2 : n - 8 < m
      · have hx : readF b = .inl 120 := by rw [HR1.out, if_neg h1, if_pos h2]
        have HX := hide hx
        clear hx
        go_wp2_with (first
          | (go_at_call 48
             rw [hD]
             go_must (
             refine (must_yes 121 _).mono ?_
             rintro e w5 ⟨rfl, rfl⟩))
          | (go_at_call 46
             go_must (
             refine (take_no A2 (n - 8) c2 120 m w4 hB4 rfl rfl h2).mono ?_
             rintro e w6 ⟨rfl, hb6⟩))
          | fail)
        exact ⟨rfl, framePost_no HX.out, hbx.trans (hb6.mono (by omega))⟩
      · have HT2 := hide (take_yes A2 (n - 8) c2 120 m (b.drop 8) w4 hB4 rfl rfl (by omega) hc21 hc22 hr4a (Nat.le_refl _))
        have hm6 : m ≤ 1048576 := by omega
        have HR2 : Hid (readF b = if ¬ sumF ((b.drop 8).take m) = wt then .inl 121 else
          match textsB ((b.drop 8).take m) with
          | none => .inl 121
          | some l => .inr (l, 8 + m)) := by
          show _ = _
          rw [HR1.out, if_neg h1, if_neg h2]
        have hslt := sumF_lt ((b.drop 8).take m)
        have HSUM : Hid (∀ w5, Reads w5 w5.heap.size 1 A2 m (bvs ((b.drop 8).take m)) → Calls Try.prog 27 #[.slice A2 m c2] w5 fun e w' => e = .returned (.int .u32 (sumF ((b.drop 8).take m))) ∧ Below w5.heap.size w5 w') := fun w5 h => sum_any A2 m c2 _ w5 h (by omega)
        generalize hbd : (b.drop 8).take m = bd at *
        clear hbd
        generalize hsm : sumF bd = sm at *
        have HSM := hide hsm
        clear hsm
        by_cases h3 : sm = wt
        · have hE : ((sm : Int) == (wt : Int)) = true := by simp; omega
          have HR3 : Hid (readF b = match textsB bd with | none => .inl 121 | some l => .inr (l, 8 + m)) := by
            show _ = _
            rw [HR2.out, if_neg (not_not_intro h3)]
          have H3 := hide h3
          clear h3
          cases hx : textsB bd with
          | none =>
            have HXT := hide hx
            have HX : Hid (readF b = .inl 121) := by
              show _ = _
              rw [HR3.out, hx]
            clear hx
            go_wp2_with (first
              | (go_at_call 48
                 rw [hD]
                 go_must (
                 refine (must_yes 121 _).mono ?_
                 rintro e w5 ⟨rfl, rfl⟩
                 clear hD))
              | (go_at_call 46
                 go_must (
                 refine HT2.out.mono ?_
                 rintro e w6 ⟨A6, c6, rfl, hB6', hc61, hc62, hr6, hr6t, hb6, hz6, hk6⟩
                 have hB6 : Blk w6 g 62 #[.slice A6 (n - 8 - m) c6, .int .i64 120, .int .i64 whole] := hB6'
                 have hbw6 := hbx.trans hb6
                 have hg6 : g < w6.heap.size := hB6.lt
                 clear hB6' hk6 hz6 hr6 hb6))
              | (go_at_call 27
                 go_must (
                 refine (HSUM.out w6 (hr6t.more (by omega))).mono ?_
                 rintro e w7 ⟨rfl, hb7⟩
                 have hB7 := hB6.below hb7 hg6
                 have hr7 := hr6t.below (hb7.mono (by omega : g ≤ w6.heap.size))
                 have hbw7 := hbw6.trans (hb7.mono (by omega))
                 have hg7 : g < w7.heap.size := hB7.lt))
              | (go_at_call 48
                 go_must (
                 refine (must_yes 121 _).mono ?_
                 rintro e w8 ⟨rfl, rfl⟩))
              | (go_at_call 49
                 go_must (
                 refine (texts_any g A2 m c2 bd w7 (hr7.more (by omega)) (by omega) hc22 (by omega)).mono ?_
                 rintro e w9 ⟨hP, hb9⟩
                 unfold TextsPost at hP
                 rw [HXT.out] at hP
                 subst hP
                 have hbw9 := hbw7.trans (hb9.mono (by omega))))
              | fail)
            exact ⟨rfl, framePost_no HX.out, hbw9⟩
          | some l =>
            have HXT := hide hx
            have HX : Hid (readF b = .inr (l, 8 + m)) := by
              show _ = _
              rw [HR3.out, hx]
            clear hx
            go_wp2_with (first
              | (go_at_call 48
                 rw [hD]
                 go_must (
                 refine (must_yes 121 _).mono ?_
                 rintro e w5 ⟨rfl, rfl⟩
                 clear hD))
              | (go_at_call 46
                 go_must (
                 refine HT2.out.mono ?_
                 rintro e w6 ⟨A6, c6, rfl, hB6', hc61, hc62, hr6, hr6t, hb6, hz6, hk6⟩
                 have hB6 : Blk w6 g 62 #[.slice A6 (n - 8 - m) c6, .int .i64 120, .int .i64 whole] := hB6'
                 have hbw6 := hbx.trans hb6
                 have hg6 : g < w6.heap.size := hB6.lt
                 clear hB6' hk6 hz6 hr6 hb6))
              | (go_at_call 27
                 go_must (
                 refine (HSUM.out w6 (hr6t.more (by omega))).mono ?_
                 rintro e w7 ⟨rfl, hb7⟩
                 have hB7 := hB6.below hb7 hg6
                 have hr7 := hr6t.below (hb7.mono (by omega : g ≤ w6.heap.size))
                 have hbw7 := hbw6.trans (hb7.mono (by omega))
                 have hb7w := hbw7
                 have hg7 : g < w7.heap.size := hB7.lt))
              | (go_at_call 48
                 go_must (
                 refine (must_yes 121 _).mono ?_
                 rintro e w8 ⟨rfl, rfl⟩))
              | (go_at_call 49
                 go_must (
                 refine (texts_any g A2 m c2 bd w7 (hr7.more (by omega)) (by omega) hc22 (by omega)).mono ?_
                 rintro e w9 ⟨hP, hb9⟩
                 unfold TextsPost at hP
                 rw [HXT.out] at hP
                 obtain ⟨v9, rfl, ho9⟩ := hP
                 have hB9 := hB7.below hb9 hg7
                 have hbw9 := hbw7.trans (hb9.mono (by omega))
                 have hz79 : w.heap.size ≤ w7.heap.size := by have := hb7w.size; omega))
              | fail)
            go_ret
            rw [Nat.sub_sub] at hB9
            exact ⟨framePost_yes HX.out (own_base ho9 hz79) hB9, hbw9⟩
        · have hE : ((sm : Int) == (wt : Int)) = false := by simp; omega
          have hx : readF b = .inl 121 := by rw [HR2.out, if_pos h3]
          have HX := hide hx
          clear hx h3
          go_wp2_with (first
            | (go_at_call 48
               rw [hD]
               go_must (
               refine (must_yes 121 _).mono ?_
               rintro e w5 ⟨rfl, rfl⟩
               clear hD))
            | (go_at_call 46
               go_must (
               refine HT2.out.mono ?_
               rintro e w6 ⟨A6, c6, rfl, hB6', hc61, hc62, hr6, hr6t, hb6, hz6, hk6⟩
               have hbw6 := hbx.trans hb6
               have hg6 : g < w6.heap.size := hB6'.lt
               clear hB6' hk6 hz6 hr6 hb6))
            | (go_at_call 27
               go_must (
               refine (HSUM.out w6 (hr6t.more (by omega))).mono ?_
               rintro e w7 ⟨rfl, hb7⟩
               have hbw7 := hbw6.trans (hb7.mono (by omega))))
            | (go_at_call 48
               go_must (
               refine (must_no 121 _).mono ?_
               rintro e w8 ⟨rfl, rfl⟩))
            | fail)
          exact ⟨rfl, framePost_no HX.out, hbw7⟩
end Go.Proofs.Ytbpodmgogokpiaa
