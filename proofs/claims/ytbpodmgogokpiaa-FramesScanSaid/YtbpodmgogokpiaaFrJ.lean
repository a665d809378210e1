/- The walk of Read (package taborref03). Conditions: those of each theorem. -/
import Derived.Test.YtbpodmgogokpiaaFrI
namespace Go.Proofs.Ytbpodmgogokpiaa
open Go.RowKit
set_option linter.unusedVariables false

theorem rtextsPost_ok {b : List UInt8} {H : Nat} {x : Ending} {w' : World} (h : RTextsPost b H x w') : ∃ v ok, x = .returned (.tuple #[v, .bool ok]) ∧ ((ok = true ∧ ∃ l, textsB b = some l ∧ w'.ownsRow H 9 1 v l.length (svs l)) ∨ (ok = false ∧ textsB b = none)) := by
  unfold RTextsPost at h
  cases hx : textsB b with
  | none =>
    rw [hx] at h
    obtain ⟨v, rfl⟩ := h
    exact ⟨v, false, rfl, .inr ⟨rfl, rfl⟩⟩
  | some l =>
    rw [hx] at h
    obtain ⟨v, rfl, ho⟩ := h
    exact ⟨v, true, rfl, .inl ⟨rfl, l, rfl, ho⟩⟩
def RReadPost (b : List UInt8) (H : Nat) (x : Ending) (w' : World) : Prop :=
  match readF b with
  | .inl e => x = .returned (.tuple #[.slice none 0 0, .int .i64 0, .int .i64 e])
  | .inr (l, k) => ∃ v, x = .returned (.tuple #[v, .int .i64 k, .int .i64 0]) ∧ w'.ownsRow H 9 1 v l.length (svs l)
theorem rreadPost_no {b : List UInt8} {H e : Nat} {w' : World} (h : readF b = .inl e) : RReadPost b H (.returned (.tuple #[.slice none 0 0, .int .i64 0, .int .i64 e])) w' := by
  unfold RReadPost; rw [h]
theorem rreadPost_yes {b : List UInt8} {H k : Nat} {v : Value} {l : List ByteArray} {w' : World} (h : readF b = .inr (l, k)) (ho : w'.ownsRow H 9 1 v l.length (svs l)) : RReadPost b H (.returned (.tuple #[v, .int .i64 k, .int .i64 0])) w' := by
  unfold RReadPost; rw [h]; exact ⟨v, rfl, ho⟩

set_option maxHeartbeats 8000000 in
theorem rread_any (A : Option Addr) (n c : Nat) (b : List UInt8) (w : World) (hr : Reads w w.heap.size 1 A n (bvs b)) (hc : n ≤ c) (hcm : c ≤ maxLen) (hn : n ≤ 10000000) :
    Calls Try.prog 18 #[.slice A n c] w fun x w' => RReadPost b w.heap.size x w' ∧ Below w.heap.size w w' := by
  have HL := hide hr.blen
  by_cases h8 : n < 8
  · have hx : readF b = .inl 120 := by unfold readF; rw [if_pos (by rw [HL.out]; exact h8)]
    have HX := hide hx
    clear hx
    have hI : (n : Int) < 8 := by omega
    go_enter Try.func18, Try.ntmps18
    go_wp2_with fail
    go_ret3
    exact ⟨rreadPost_no HX.out, Below.refl _ _⟩
  · have hI : ¬ (n : Int) < 8 := by omega
    have HN := hide (rnumber_any A n c b w hr (by omega) hc hcm)
    have hlt := of4_lt b
    have HR1 : Hid (readF b = if 1048576 < of4 b then .inl 121 else if n - 8 < of4 b then .inl 120 else
        if ¬ sumF ((b.drop 8).take (of4 b)) = of4 (b.drop 4) then .inl 121 else
        match textsB ((b.drop 8).take (of4 b)) with
        | none => .inl 121
        | some l => .inr (l, 8 + of4 b)) := by
      show _ = _
      unfold readF
      rw [if_neg (by rw [HL.out]; exact h8), HL.out]
      rfl
    by_cases h1 : 1048576 < of4 b
    · have hx : readF b = .inl 121 := by rw [HR1.out, if_pos h1]
      have HX := hide hx
      clear hx
      have h1I : (1048576 : Int) < ((of4 b : Nat) : Int) := by omega
      go_enter Try.func18, Try.ntmps18
      go_wp2_with (first
        | (go_at_call 35
           go_must (
           refine HN.out.mono ?_
           rintro e w2 ⟨rfl, m, rfl⟩))
        | fail)
      go_ret3
      exact ⟨rreadPost_no HX.out, undrewI _⟩
    · have h1I : ¬ (1048576 : Int) < ((of4 b : Nat) : Int) := by omega
      by_cases h2 : n - 8 < of4 b
      · have hx : readF b = .inl 120 := by rw [HR1.out, if_neg h1, if_pos h2]
        have HX := hide hx
        clear hx
        have h2I : (n : Int) - 8 < ((of4 b : Nat) : Int) := by omega
        go_enter Try.func18, Try.ntmps18
        go_wp2_with (first
          | (go_at_call 35
             go_must (
             refine HN.out.mono ?_
             rintro e w2 ⟨rfl, m, rfl⟩))
          | fail)
        go_ret3
        exact ⟨rreadPost_no HX.out, undrewI _⟩
      · have h2I : ¬ (n : Int) - 8 < ((of4 b : Nat) : Int) := by omega
        have h48 : le4 (of4 b) = b.take 4 := le4_of4 (by rw [HL.out]; omega)
        have hbl : ((b.drop 8).take (of4 b)).length = of4 b := by rw [List.length_take, List.length_drop, HL.out]; omega
        have HSF : Hid (refUpd 0 (b.take 4 ++ (b.drop 8).take (of4 b)) = sumF ((b.drop 8).take (of4 b))) := by
          show _ = _
          rw [sumF_ref, hbl, h48]
        clear h48 hbl
        have hsl := sumF_lt ((b.drop 8).take (of4 b))
        have hbody := hr.cut (k := 8) (m := of4 b) (cap := c) (by omega) hc
        rw [bvs_drop, bvs_take] at hbody
        have hf4 := hr.front (m := 4) (by omega)
        have hs4 := hr.cut (k := 4) (m := 4) (cap := c) (by omega) hc
        rw [if_neg (by omega), bvs_drop, bvs_take] at hs4
        have HO4 := hide (of4_take (b.drop 4))
        have hw84 : of4 (b.drop 4) < 4294967296 := of4_lt _
        have HR2 : Hid (readF b = if ¬ sumF ((b.drop 8).take (of4 b)) = of4 (b.drop 4) then .inl 121 else
          match textsB ((b.drop 8).take (of4 b)) with
          | none => .inl 121
          | some l => .inr (l, 8 + of4 b)) := by
          show _ = _
          rw [HR1.out, if_neg h1, if_neg h2]
        have hm6 : of4 b ≤ 1048576 := by omega
        have HCU : Hid (∀ q : Nat, (8 : Int) + (q : Int) = ((8 + q : Nat) : Int)) := fun q => by omega
        have h4c : ¬ c = 4 := by omega
        have HRC : Hid (∀ (A5 : Option Addr) (n5 c5 : Nat) (w5 : World), Reads w5 w5.heap.size 1 A5 n5 (bvs (b.take 4 ++ (b.drop 8).take (of4 b))) → n5 ≤ maxLen → Calls Try.prog 30 #[.slice A5 n5 c5] w5 fun e w' => e = .returned (.int .u32 (sumF ((b.drop 8).take (of4 b)))) ∧ w5 = w') := fun A5 n5 c5 w5 h hle => by
          have := rcrc_any A5 n5 c5 _ w5 h hle
          rw [HSF.out] at this
          exact this
        have HROF : Hid (∀ w5, Reads w5 w.heap.size 1 (A.map (·.add 4)) 4 (bvs ((b.drop 4).take 4)) → Calls Try.prog 37 #[.slice (A.map (·.add 4)) 4 (c - 4)] w5 fun e w' => e = .returned (.int .u32 (of4 (b.drop 4))) ∧ ∃ m, w' = w5.drewN m) := fun w5 h => by
          have := rof_any (A.map (·.add 4)) 4 (c - 4) _ w5 h (by decide) (by decide)
          rw [HO4.out] at this
          exact this
        clear HSF HO4 HR1
        generalize hbt : b.take 4 = bt at *
        have hbt4 : bt.length = 4 := by rw [← hbt, List.length_take, HL.out]; omega
        clear hbt
        generalize hm : of4 b = m at *
        clear hm
        generalize hbd : (b.drop 8).take m = bd at *
        clear hbd
        generalize hwt : of4 (b.drop 4) = wt at *
        clear hwt
        generalize hsm : sumF bd = sm at *
        clear hsm
        have hmc : (8 : Int) + (m : Int) ≤ (c : Int) := by omega
        have hm8 : (8 : Int) ≤ 8 + (m : Int) := by omega
        have hmN : ((8 : Int) + (m : Int)).toNat = 8 + m := by omega
        have hc8I : (8 : Int) ≤ (c : Int) := by omega
        have hc4I : (4 : Int) ≤ (c : Int) := by omega
        have hRt := fun (A5 : Option Addr) (c5 : Nat) (w5 : World) (h : Reads w5 w5.heap.size 1 A5 m (bvs bd)) (h1 : m ≤ c5) (h2 : c5 ≤ maxLen) => hide (rtexts_any A5 m c5 bd w5 h h1 h2 (by omega))
        have hbt' := hide hbt4
        clear hbt4
        by_cases hc8 : c = 8
        · rw [if_pos hc8] at hbody
          have hm0 : m ≤ 0 := by omega
          subst hc8
          go_enter Try.func18, Try.ntmps18
          go_wp2_with (first
            | (go_at_call 35
               go_must (
               refine HN.out.mono ?_
               rintro e w2 ⟨rfl, m2, hw2⟩
               have hb2 : Below w.heap.size w w2 := by rw [hw2]; exact undrewI _
               have hbody2 := hbody.below hb2
               have hf42 := hf4.below hb2
               have hs42 := hs4.below hb2
               have hb2a : Below w.heap.size w (w2.alloc (.cells #[] 5)) := hb2.alloc hb2.size _
               have hown2 : (w2.alloc (.cells #[] 5)).ownsRow w2.heap.size 5 1 (.slice (some ⟨w2.heap.size, 0, none⟩) 0 0) 0 [] := World.ownsRow_made w2 #[] 0 (Nat.le_refl _) (by decide) rfl
               have hf42a := hf42.alloc hb2.size (.cells #[] 5)
               have hz2 := hb2.size
               clear hw2))
            | (refine wpList_append (o := ⟨some 29, _, _, _, _, _⟩) rfl (.tmp 26) (.tmp 28) 25 rfl u8_ok Try.underlying25 hown2 rfl hf42a rfl (bvs_one _) (by unfold maxLen; omega) (by omega) (by simp) ?_
               intro v3 w3 hown3 hb3 _ _
               rw [Nat.zero_add, List.nil_append] at hown3
               have hb3w : Below w.heap.size w w3 := hb2a.trans (hb3.mono hz2)
               have hbody3 := hbody.below hb3w
               have hz3 : w2.heap.size ≤ w3.heap.size := by have := hb3.size; simp at this; omega)
            | (refine wpList_append (o := ⟨some 31, _, _, _, _, _⟩) rfl (.tmp 29) (.tmp 30) 25 rfl u8_ok Try.underlying25 hown3 rfl hbody3 rfl (bvs_one _) (by unfold maxLen; omega) (by omega) hz3 ?_
               intro v4 w4 hown4 hb4 _ _
               rw [← bvs_append] at hown4
               obtain ⟨A4, c4, rfl, hc41, hc42⟩ := own_slice hown4
               have hb4w : Below w.heap.size w w4 := hb3w.trans (hb4.mono hz2)
               have hr4 := Reads.of_own hown4
               have hbody4 := (hbody.below hb4w).more hb4w.size
               have hs44 := hs4.below hb4w)
            | (go_at_call 30
               go_must (
               refine (HRC.out A4 (4 + m) c4 w4 hr4 (by unfold maxLen; omega)).mono ?_
               rintro e w5 ⟨rfl, rfl⟩))
            | (go_at_call 36
               go_must (
               refine (hRt A 0 w4 hbody4 (by omega) (by omega)).out.mono ?_
               rintro e w6 ⟨hP, hb6⟩
               have hok : ∃ v7 ok, e = .returned (.tuple #[v7, .bool ok]) ∧ ((ok = true ∧ ∃ l, textsB bd = some l ∧ w6.ownsRow w4.heap.size 9 1 v7 l.length (svs l)) ∨ (ok = false ∧ textsB bd = none)) := rtextsPost_ok hP
               obtain ⟨v7, ok, rfl, hok⟩ := hok
               have HOK := hide hok
               clear hok hP
               have hb6w := hb4w.trans (hb6.mono hb4w.size)
               have hs46 := hs4.below hb6w
               have hz4 := hb4w.size))
            | fail)
          rcases HOK.out with ⟨rfl, l, htl, ho7⟩ | ⟨rfl, htn⟩
          · by_cases h3 : sm = wt
            · have HX : Hid (readF b = .inr (l, 8 + m)) := by
                show _ = _
                rw [HR2.out, if_neg (not_not_intro h3), htl]
              clear htl
              subst h3
              go_wp2_with (first
                | (go_at_call 37
                   go_must (
                   refine (HROF.out w6 hs46).mono ?_
                   rintro e w7 ⟨rfl, m7, hw7⟩
                   have hb7w : Below w.heap.size w w7 := by rw [hw7]; exact hb6w.trans ((undrewI _).mono hb6w.size)
                   have ho8 : w7.ownsRow w4.heap.size 9 1 v7 l.length (svs l) := by rw [hw7]; exact own_below ho7 (undrewI _)
                   clear hw7))
                | fail)
              go_ret3
              exact ⟨rreadPost_yes HX.out (own_base ho8 hz4), hb7w⟩
            · have hE : ((wt : Int) != (sm : Int)) = true := by simp; omega
              have HX : Hid (readF b = .inl 121) := by
                show _ = _
                rw [HR2.out, if_pos h3]
              clear htl
              go_wp2_with (first
                | (go_at_call 37
                   go_must (
                   refine (HROF.out w6 hs46).mono ?_
                   rintro e w7 ⟨rfl, m7, hw7⟩
                   have hb7w : Below w.heap.size w w7 := by rw [hw7]; exact hb6w.trans ((undrewI _).mono hb6w.size)
                   clear hw7))
                | fail)
              go_ret3
              exact ⟨rreadPost_no HX.out, hb7w⟩
          · have HX : Hid (readF b = .inl 121) := by
              show _ = _
              rw [HR2.out, htn]
              split <;> rfl
            clear htn
            by_cases h3 : sm = wt
            · subst h3
              go_wp2_with (first
                | (go_at_call 37
                   go_must (
                   refine (HROF.out w6 hs46).mono ?_
                   rintro e w7 ⟨rfl, m7, hw7⟩
                   have hb7w : Below w.heap.size w w7 := by rw [hw7]; exact hb6w.trans ((undrewI _).mono hb6w.size)
                   clear hw7))
                | fail)
              go_ret3
              exact ⟨rreadPost_no HX.out, hb7w⟩
            · have hE : ((wt : Int) != (sm : Int)) = true := by simp; omega
              go_wp2_with (first
                | (go_at_call 37
                   go_must (
                   refine (HROF.out w6 hs46).mono ?_
                   rintro e w7 ⟨rfl, m7, hw7⟩
                   have hb7w : Below w.heap.size w w7 := by rw [hw7]; exact hb6w.trans ((undrewI _).mono hb6w.size)
                   clear hw7))
                | fail)
              go_ret3
              exact ⟨rreadPost_no HX.out, hb7w⟩
        · rw [if_neg hc8] at hbody
          go_enter Try.func18, Try.ntmps18
          go_wp2_with (first
            | (go_at_call 35
               go_must (
               refine HN.out.mono ?_
               rintro e w2 ⟨rfl, m2, hw2⟩
               have hb2 : Below w.heap.size w w2 := by rw [hw2]; exact undrewI _
               have hbody2 := hbody.below hb2
               have hf42 := hf4.below hb2
               have hs42 := hs4.below hb2
               have hb2a : Below w.heap.size w (w2.alloc (.cells #[] 5)) := hb2.alloc hb2.size _
               have hown2 : (w2.alloc (.cells #[] 5)).ownsRow w2.heap.size 5 1 (.slice (some ⟨w2.heap.size, 0, none⟩) 0 0) 0 [] := World.ownsRow_made w2 #[] 0 (Nat.le_refl _) (by decide) rfl
               have hf42a := hf42.alloc hb2.size (.cells #[] 5)
               have hz2 := hb2.size
               clear hw2))
            | (refine wpList_append (o := ⟨some 29, _, _, _, _, _⟩) rfl (.tmp 26) (.tmp 28) 25 rfl u8_ok Try.underlying25 hown2 rfl hf42a rfl (bvs_one _) (by unfold maxLen; omega) (by omega) (by simp) ?_
               intro v3 w3 hown3 hb3 _ _
               rw [Nat.zero_add, List.nil_append] at hown3
               have hb3w : Below w.heap.size w w3 := hb2a.trans (hb3.mono hz2)
               have hbody3 := hbody.below hb3w
               have hz3 : w2.heap.size ≤ w3.heap.size := by have := hb3.size; simp at this; omega)
            | (refine wpList_append (o := ⟨some 31, _, _, _, _, _⟩) rfl (.tmp 29) (.tmp 30) 25 rfl u8_ok Try.underlying25 hown3 rfl hbody3 rfl (bvs_one _) (by unfold maxLen; omega) (by omega) hz3 ?_
               intro v4 w4 hown4 hb4 _ _
               rw [← bvs_append] at hown4
               obtain ⟨A4, c4, rfl, hc41, hc42⟩ := own_slice hown4
               have hb4w : Below w.heap.size w w4 := hb3w.trans (hb4.mono hz2)
               have hr4 := Reads.of_own hown4
               have hbody4 := (hbody.below hb4w).more hb4w.size
               have hs44 := hs4.below hb4w)
            | (go_at_call 30
               go_must (
               refine (HRC.out A4 (4 + m) c4 w4 hr4 (by unfold maxLen; omega)).mono ?_
               rintro e w5 ⟨rfl, rfl⟩))
            | (go_at_call 36
               go_must (
               refine (hRt (A.map (·.add 8)) (c - 8) w4 hbody4 (by omega) (by omega)).out.mono ?_
               rintro e w6 ⟨hP, hb6⟩
               have hok : ∃ v7 ok, e = .returned (.tuple #[v7, .bool ok]) ∧ ((ok = true ∧ ∃ l, textsB bd = some l ∧ w6.ownsRow w4.heap.size 9 1 v7 l.length (svs l)) ∨ (ok = false ∧ textsB bd = none)) := rtextsPost_ok hP
               obtain ⟨v7, ok, rfl, hok⟩ := hok
               have HOK := hide hok
               clear hok hP
               have hb6w := hb4w.trans (hb6.mono hb4w.size)
               have hs46 := hs4.below hb6w
               have hz4 := hb4w.size))
            | fail)
          rcases HOK.out with ⟨rfl, l, htl, ho7⟩ | ⟨rfl, htn⟩
          · by_cases h3 : sm = wt
            · have HX : Hid (readF b = .inr (l, 8 + m)) := by
                show _ = _
                rw [HR2.out, if_neg (not_not_intro h3), htl]
              clear htl
              subst h3
              go_wp2_with (first
                | (go_at_call 37
                   go_must (
                   refine (HROF.out w6 hs46).mono ?_
                   rintro e w7 ⟨rfl, m7, hw7⟩
                   have hb7w : Below w.heap.size w w7 := by rw [hw7]; exact hb6w.trans ((undrewI _).mono hb6w.size)
                   have ho8 : w7.ownsRow w4.heap.size 9 1 v7 l.length (svs l) := by rw [hw7]; exact own_below ho7 (undrewI _)
                   clear hw7))
                | fail)
              go_ret3
              exact ⟨rreadPost_yes HX.out (own_base ho8 hz4), hb7w⟩
            · have hE : ((wt : Int) != (sm : Int)) = true := by simp; omega
              have HX : Hid (readF b = .inl 121) := by
                show _ = _
                rw [HR2.out, if_pos h3]
              clear htl
              go_wp2_with (first
                | (go_at_call 37
                   go_must (
                   refine (HROF.out w6 hs46).mono ?_
                   rintro e w7 ⟨rfl, m7, hw7⟩
                   have hb7w : Below w.heap.size w w7 := by rw [hw7]; exact hb6w.trans ((undrewI _).mono hb6w.size)
                   clear hw7))
                | fail)
              go_ret3
              exact ⟨rreadPost_no HX.out, hb7w⟩
          · have HX : Hid (readF b = .inl 121) := by
              show _ = _
              rw [HR2.out, htn]
              split <;> rfl
            clear htn
            by_cases h3 : sm = wt
            · subst h3
              go_wp2_with (first
                | (go_at_call 37
                   go_must (
                   refine (HROF.out w6 hs46).mono ?_
                   rintro e w7 ⟨rfl, m7, hw7⟩
                   have hb7w : Below w.heap.size w w7 := by rw [hw7]; exact hb6w.trans ((undrewI _).mono hb6w.size)
                   clear hw7))
                | fail)
              go_ret3
              exact ⟨rreadPost_no HX.out, hb7w⟩
            · have hE : ((wt : Int) != (sm : Int)) = true := by simp; omega
              go_wp2_with (first
                | (go_at_call 37
                   go_must (
                   refine (HROF.out w6 hs46).mono ?_
                   rintro e w7 ⟨rfl, m7, hw7⟩
                   have hb7w : Below w.heap.size w w7 := by rw [hw7]; exact hb6w.trans ((undrewI _).mono hb6w.size)
                   clear hw7))
                | fail)
              go_ret3
              exact ⟨rreadPost_no HX.out, hb7w⟩
end Go.Proofs.Ytbpodmgogokpiaa
