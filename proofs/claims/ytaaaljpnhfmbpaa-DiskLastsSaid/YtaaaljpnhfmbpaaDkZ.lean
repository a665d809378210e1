/- The walk of the document's With (package taborref02). Conditions: those of the theorem. -/
import Derived.Test.YtaaaljpnhfmbpaaDkMa
namespace Go.Proofs.Ytaaaljpnhfmbpaa
open Go.RowKit
set_option linter.unusedVariables false

theorem dvs_take (l : FL) (t : Nat) : (dvs l).take (t * 3) = dvs (l.take t) := by
  induction l generalizing t with
  | nil => simp [dvs]
  | cons x l ih =>
    cases t with
    | zero => simp [dvs]
    | succ t =>
      have e : dvs (x :: l) = [.string x.1, .string ⟨x.2.1.toArray⟩, .int .i64 x.2.2] ++ dvs l := rfl
      rw [e, show (t + 1) * 3 = 3 + t * 3 by omega, List.take_append, List.take_of_length_le (by simp)]
      show _ ++ (dvs l).take (3 + t * 3 - 3) = _
      rw [Nat.add_sub_cancel_left, ih]
      rfl
theorem dvs_drop (l : FL) (t : Nat) : (dvs l).drop (t * 3) = dvs (l.drop t) := by
  induction l generalizing t with
  | nil => simp [dvs]
  | cons x l ih =>
    cases t with
    | zero => simp [dvs]
    | succ t =>
      have e : dvs (x :: l) = [.string x.1, .string ⟨x.2.1.toArray⟩, .int .i64 x.2.2] ++ dvs l := rfl
      rw [e, show (t + 1) * 3 = 3 + t * 3 by omega, List.drop_append, List.drop_of_length_le (by simp)]
      show [] ++ (dvs l).drop (3 + t * 3 - 3) = _
      rw [Nat.add_sub_cancel_left, ih]
      rfl
theorem Reads.back3 {w : World} {B n g o : Nat} {xs : List Value} (h : Reads w B 3 (some ⟨g, o, none⟩) n xs) {t : Nat} (ht : t ≤ n) : Reads w B 3 (some ⟨g, o + t * 3, none⟩) (n - t) (xs.drop (t * 3)) := by
  have hl := h.1
  refine ⟨by rw [List.length_drop]; omega, fun h0 => ?_⟩
  obtain ⟨b, q, e, hb, hc⟩ := h.2 (by omega)
  injection e with e
  injection e with e1 e2 _
  subst e1 e2
  refine ⟨g, o + t * 3, rfl, hb, fun j u hu => ?_⟩
  rw [List.getElem?_drop] at hu
  have := hc _ _ hu
  rw [Nat.add_assoc]
  exact this
theorem while_split {p : FD → Bool} {l : FL} {t : Nat} (h1 : ∀ y ∈ l.take t, p y = true) (h2 : ∀ y, l[t]? = some y → p y = false) : l.takeWhile p = l.take t ∧ l.dropWhile p = l.drop t := by
  induction l generalizing t with
  | nil => simp
  | cons x l ih =>
    cases t with
    | zero =>
      have := h2 x rfl
      rw [List.takeWhile_cons_of_neg (by simp [this]), List.dropWhile_cons_of_neg (by simp [this])]
      exact ⟨rfl, rfl⟩
    | succ t =>
      have hx := h1 x (by simp)
      rw [List.takeWhile_cons_of_pos hx, List.dropWhile_cons_of_pos hx]
      obtain ⟨i1, i2⟩ := ih (t := t) (fun y hy => h1 y (by simp [hy])) (fun y hy => h2 y (by simpa using hy))
      rw [i1, i2]
      exact ⟨rfl, rfl⟩

set_option maxHeartbeats 8000000 in
set_option maxRecDepth 20000 in
theorem rwith_any {A : Option Addr} {n c : Nat} {l : FL} {x : FD} (w : World) (hr : Reads w w.heap.size 3 A n (dvs l)) (hn : n ≤ 50000) :
    Calls Try.prog 44 #[.slice A n c, .agg #[.string x.1, .string ⟨x.2.1.toArray⟩, .int .i64 x.2.2]] w fun e w' => ∃ v, e = .returned v ∧ w'.ownsRow w.heap.size 27 3 v (withL l x).length (dvs (withL l x)) ∧ Below w.heap.size w w' := by
  have HL := hide hr.dlen
  have hk0 := Blk.new w 27 #[.string x.1, .string ⟨x.2.1.toArray⟩, .int .i64 x.2.2]
  have hb0 : Below w.heap.size w (w.alloc (.cells #[.string x.1, .string ⟨x.2.1.toArray⟩, .int .i64 x.2.2] 27)) := (Below.refl _ w).alloc (Nat.le_refl _) _
  go_enter Try.func44, Try.ntmps44
  go_upto_region 1 with (fail)
  obtain ⟨fb, hfb⟩ : ∃ fb, fb = w.heap.size := ⟨_, rfl⟩
  rw [← hfb] at hk0
  simp only [← hfb]
  have HFB := hide hfb
  clear hfb
  generalize w.alloc (.cells #[.string x.1, .string ⟨x.2.1.toArray⟩, .int .i64 x.2.2] 27) = w1 at *
  have q0 : w1.cell? ⟨fb, 0, none⟩ = some (.string x.1) := hk0.cell 0
  have hDr := hide (rdrop_any (c := c) (name := x.1) w1 ((hr.below hb0).more hb0.size) (by omega))
  go_upto_region 2 with (first
    | (go_at_call 43
       go_must (
       refine hDr.out.mono ?_
       rintro e w2 ⟨v2, rfl, hown2, hb2⟩
       obtain ⟨A2, m2, c2, rfl⟩ := own_sliceN hown2
       have HM2 : Hid (m2 = (dropL l x.1).length) := own_len3 hown2
       have HC2 : Hid (m2 ≤ c2) := by
         show _ ≤ _
         have h := hown2
         rw [← HM2.out] at h
         exact own_cap h))
    | fail)
  have hk2 := hk0.below hb2 hk0.lt
  have hbw2 := hb0.trans (hb2.mono hb0.size)
  rw [← HM2.out] at hown2
  have hrd := Reads.of_own3 hown2
  have HSN : Hid (∀ ad, A2 = some ad → ad.spot = none) := fun ad e => by
    subst e
    rcases hown2.2 with ⟨h1, _⟩ | ⟨g', cap', cur', hv', _⟩
    · cases h1
    · injection hv' with e1 _ _
      injection e1 with e1
      rw [e1]
  have hml : m2 ≤ 50000 := by
    have := dropL_len l x.1
    rw [HL.out] at this
    rw [HM2.out]
    omega
  have hc2I : (m2 : Int) ≤ (c2 : Int) := by have := HC2.out; omega
  have HX : Hid (withL l x = (dropL l x.1).takeWhile (fun y => decide (NLt y.1 x.1)) ++ x :: (dropL l x.1).dropWhile (fun y => decide (NLt y.1 x.1))) := rfl
  clear hr hk0 hb0 hDr q0 hown2 hb2
  generalize dropL l x.1 = R at *
  go_wp2_with fail
  go_loopw [6] (fun i wr => ∃ t k : Nat, t ≤ m2 ∧ i = .int .i64 t ∧ (∀ y ∈ R.take t, decide (NLt y.1 x.1) = true) ∧ wr = w2.drewN k) (fun i _ => m2 - (intOf i).toNat)
  case atStart => exact ⟨0, 0, by omega, rfl, fun y hy => by simp at hy, rfl⟩
  case round =>
    obtain ⟨t, k, ht, rfl, hall, rfl⟩ := hrel
    have HALL := hide hall
    clear hall
    have q0 : w2.cell? ⟨fb, 0, none⟩ = some (.string x.1) := hk2.cell 0
    by_cases htn : t < m2
    · have htI : (t : Int) < (m2 : Int) := by omega
      have htd : decide ((t : Int) < (m2 : Int)) = true := decide_eq_true htI
      have ht0' : (0 : Int) ≤ (t : Int) := by omega
      have hw2 : IntKind.i64.wrap ((t : Int) + 1) = (t : Int) + 1 := IntWalk.i64_in _ (by omega)
      obtain ⟨b, o, y, rfl, hb, hly, k1, k2, k3⟩ := hrd.dat htn
      have HLY := hide hly
      have hls := less_eq y.1 x.1
      clear hly
      by_cases hlt : NLt y.1 x.1
      · rw [decide_eq_true hlt] at hls
        have HLT := hide hlt
        clear hlt
        go_wp2_with fail
        go_quiet (fail)
        go_wp2_with fail
        go_roundw
        case rel => exact ⟨t + 1, k + nq, by omega, by simp, fun z hz => by
          rw [take_snocD HLY.out] at hz
          rcases List.mem_append.1 hz with hz | hz
          · exact HALL.out z hz
          · rw [List.mem_singleton.1 hz]; exact decide_eq_true HLT.out, by rfl⟩
        case measure => simp [intOf]; omega
      · rw [decide_eq_false hlt] at hls
        have HLT := hide hlt
        clear hlt
        go_wp2_with fail
        go_quiet (fail)
        have HSP : Hid (R.takeWhile (fun y => decide (NLt y.1 x.1)) = R.take t ∧ R.dropWhile (fun y => decide (NLt y.1 x.1)) = R.drop t) := while_split HALL.out (fun z hz => by
          rw [HLY.out] at hz
          injection hz with hz
          subst hz
          exact decide_eq_false HLT.out)
        clear hls k1 k2 k3 htd ht0'
        go_upto_region 5 with (fail)
        have hkW : Blk (((w2.drewN k).drewN nq)) fb 27 #[.string x.1, .string ⟨x.2.1.toArray⟩, .int .i64 x.2.2] := hk2
        have hrW : Reads (((w2.drewN k).drewN nq)) (((w2.drewN k).drewN nq)).heap.size 3 (some ⟨b, o, none⟩) m2 (dvs R) := hrd
        have hbW : Below w.heap.size w (((w2.drewN k).drewN nq)) := below_drewN (below_drewN hbw2 _) _
        clear hk2 hrd hbw2 q0
        generalize ((w2.drewN k).drewN nq) = W at *
        have hown0 : (W.alloc (.cells #[] 27)).ownsRow W.heap.size 27 3 (.slice (some ⟨W.heap.size, 0, none⟩) 0 0) 0 [] := World.ownsRow_made W #[] 0 (Nat.le_refl _) (by decide) rfl
        have hbA : Below W.heap.size W (W.alloc (.cells #[] 27)) := (Below.refl _ W).alloc (Nat.le_refl _) _
        have hf0 : Reads (W.alloc (.cells #[] 27)) W.heap.size 3 (some ⟨b, o, none⟩) t (dvs (R.take t)) := by
          rw [← dvs_take]
          exact (hrW.front3 ht).below hbA
        have hback : Reads W W.heap.size 3 (some ⟨b, o + t * 3, none⟩) (m2 - t) (dvs (R.drop t)) := by
          rw [← dvs_drop]
          exact hrW.back3 ht
        have hz1 : 0 + t ≤ maxLen := by unfold maxLen; omega
        have hz2 : (0 + t) * 40 ≤ 140737488355328 := by omega
        have hz3 : t + 1 ≤ maxLen := by unfold maxLen; omega
        have hz4 : (t + 1) * 40 ≤ 140737488355328 := by omega
        have hz5 : t + 1 + (m2 - t) ≤ maxLen := by unfold maxLen; omega
        have hz6 : (t + 1 + (m2 - t)) * 40 ≤ 140737488355328 := by omega
        have ht0 : (0 : Int) ≤ (t : Int) := by omega
        have htm : (t : Int) ≤ (m2 : Int) := by omega
        have htc : (t : Int) ≤ (c2 : Int) := by omega
        have hsub : ((m2 : Int) - (t : Int)).toNat = (m2 - t) := by omega
        have hkA := hkW.below hbA hkW.lt
        have qa := hkA.cell 0
        go_upto_region 6 with (first
          | (at_builtin
             go_must (refine wpList_append (by rfl) (.tmp 28) (.tmp 31) 24 (by rfl) fileD_ok Try.underlying24 hown0 (by rfl) hf0 (by rfl) (dvs_one _) hz1 hz2 (by simp) ?_)
             intro v5 w5 hown5 hb5 _ _)
          | fail)
        rw [Nat.zero_add, List.nil_append] at hown5
        have hb5' : Below W.heap.size W w5 := hbA.trans hb5
        have hk5 := hkW.below hb5' hkW.lt
        have hback5 := hback.below hb5'
        have p0 : w5.cell? ⟨fb, 0, none⟩ = some (.string x.1) := hk5.cell 0
        have p1 : w5.cell? ⟨fb, 1, none⟩ = some (.string ⟨x.2.1.toArray⟩) := hk5.cell 1
        have p2 : w5.cell? ⟨fb, 2, none⟩ = some (.int .i64 x.2.2) := hk5.cell 2
        have hone := one_reads w5 x
        have hown6 := hown5.alloc (.cells #[.string x.1, .string ⟨x.2.1.toArray⟩, .int .i64 x.2.2] 27)
        have hb6 : Below W.heap.size W (w5.alloc (.cells #[.string x.1, .string ⟨x.2.1.toArray⟩, .int .i64 x.2.2] 27)) := hb5'.alloc hb5'.size _
        clear hown0 hf0 hback hkW hkA qa hb5 hrW hbA
        go_upto_region 7 with (first
          | (at_builtin
             refine wpList_append (by rfl) (.tmp 33) (.tmp 35) 24 (by rfl) fileD_ok Try.underlying24 hown6 (by rfl) hone (by rfl) (dvs_one _) hz3 hz4 hb6.size ?_
             intro v7 w7 hown7 hb7 _ _)
          | fail)
        rw [← dvs_append] at hown7
        have hb7' : Below W.heap.size W w7 := hb6.trans hb7
        have hback7 := hback5.below (hb6.trans hb7 |> fun h => (Below.refl _ w5).alloc (by have := hb5'.size; omega) (.cells #[.string x.1, .string ⟨x.2.1.toArray⟩, .int .i64 x.2.2] 27) |>.trans hb7)
        clear hown5 hown6 hone hback5 hk5 p0 p1 p2 hb6 hb7
        go_wp2_with (first
          | (at_builtin
             refine wpList_append (by rfl) (.tmp 37) (.tmp 40) 24 (by rfl) fileD_ok Try.underlying24 hown7 (by rfl) hback7 (by rfl) (dvs_one _) hz5 hz6 hb7'.size ?_
             intro v8 w8 hown8 hb8 _ _
             rw [← dvs_append] at hown8)
          | fail)
        go_ret
        have he : withL l x = R.take t ++ [x] ++ R.drop t := by
          rw [HX.out, HSP.out.1, HSP.out.2, List.append_assoc]
          rfl
        refine ⟨_, rfl, ?_, hbW.trans ((hb7'.trans hb8).mono hbW.size)⟩
        rw [he]
        have hle : (R.take t ++ [x] ++ R.drop t).length = t + 1 + (m2 - t) := by
          simp only [List.length_append, List.length_take, List.length_drop, List.length_cons, List.length_nil]
          rw [← HM2.out]
          omega
        rw [hle]
        exact own_base3 hown8 hbW.size
    · have htI : ¬ (t : Int) < (m2 : Int) := by omega
      have htd : decide ((t : Int) < (m2 : Int)) = false := decide_eq_false htI
      have HSP : Hid (R.takeWhile (fun y => decide (NLt y.1 x.1)) = R.take t ∧ R.dropWhile (fun y => decide (NLt y.1 x.1)) = R.drop t) := while_split HALL.out (fun z hz => by
        rw [List.getElem?_eq_none (by rw [← HM2.out]; omega)] at hz
        cases hz)
      obtain rfl : m2 = t := by omega
      rcases A2 with _ | ⟨b, o, sp⟩
      · go_wp2_with fail
        go_quiet (fail)
        go_upto_region 5 with (fail)
        have hkW : Blk (((w2.drewN k).drewN nq)) fb 27 #[.string x.1, .string ⟨x.2.1.toArray⟩, .int .i64 x.2.2] := hk2
        have hrW : Reads (((w2.drewN k).drewN nq)) (((w2.drewN k).drewN nq)).heap.size 3 none m2 (dvs R) := hrd
        have hbW : Below w.heap.size w (((w2.drewN k).drewN nq)) := below_drewN (below_drewN hbw2 _) _
        clear hk2 hrd hbw2 q0
        generalize ((w2.drewN k).drewN nq) = W at *
        have hown0 : (W.alloc (.cells #[] 27)).ownsRow W.heap.size 27 3 (.slice (some ⟨W.heap.size, 0, none⟩) 0 0) 0 [] := World.ownsRow_made W #[] 0 (Nat.le_refl _) (by decide) rfl
        have hbA : Below W.heap.size W (W.alloc (.cells #[] 27)) := (Below.refl _ W).alloc (Nat.le_refl _) _
        have hf0 : Reads (W.alloc (.cells #[] 27)) W.heap.size 3 none m2 (dvs (R.take m2)) := by
          rw [← dvs_take]
          exact (hrW.front3 ht).below hbA
        have hback : Reads W W.heap.size 3 none 0 (dvs (R.drop m2)) := by
          rw [← dvs_drop]
          exact (by rw [List.drop_of_length_le (by rw [dvs_len, ← HM2.out]; omega)]; exact Reads.none_ _ _ _ _)
        have hz1 : 0 + m2 ≤ maxLen := by unfold maxLen; omega
        have hz2 : (0 + m2) * 40 ≤ 140737488355328 := by omega
        have hz3 : m2 + 1 ≤ maxLen := by unfold maxLen; omega
        have hz4 : (m2 + 1) * 40 ≤ 140737488355328 := by omega
        have hz5 : m2 + 1 + 0 ≤ maxLen := by unfold maxLen; omega
        have hz6 : (m2 + 1 + 0) * 40 ≤ 140737488355328 := by omega
        have ht0 : (0 : Int) ≤ (m2 : Int) := by omega
        have htm : (m2 : Int) ≤ (m2 : Int) := by omega
        have htc : (m2 : Int) ≤ (c2 : Int) := by omega
        have hsub : ((m2 : Int) - (m2 : Int)).toNat = 0 := by omega
        have hkA := hkW.below hbA hkW.lt
        have qa := hkA.cell 0
        go_upto_region 6 with (first
          | (at_builtin
             go_must (refine wpList_append (by rfl) (.tmp 28) (.tmp 31) 24 (by rfl) fileD_ok Try.underlying24 hown0 (by rfl) hf0 (by rfl) (dvs_one _) hz1 hz2 (by simp) ?_)
             intro v5 w5 hown5 hb5 _ _)
          | fail)
        rw [Nat.zero_add, List.nil_append] at hown5
        have hb5' : Below W.heap.size W w5 := hbA.trans hb5
        have hk5 := hkW.below hb5' hkW.lt
        have hback5 := hback.below hb5'
        have p0 : w5.cell? ⟨fb, 0, none⟩ = some (.string x.1) := hk5.cell 0
        have p1 : w5.cell? ⟨fb, 1, none⟩ = some (.string ⟨x.2.1.toArray⟩) := hk5.cell 1
        have p2 : w5.cell? ⟨fb, 2, none⟩ = some (.int .i64 x.2.2) := hk5.cell 2
        have hone := one_reads w5 x
        have hown6 := hown5.alloc (.cells #[.string x.1, .string ⟨x.2.1.toArray⟩, .int .i64 x.2.2] 27)
        have hb6 : Below W.heap.size W (w5.alloc (.cells #[.string x.1, .string ⟨x.2.1.toArray⟩, .int .i64 x.2.2] 27)) := hb5'.alloc hb5'.size _
        clear hown0 hf0 hback hkW hkA qa hb5 hrW hbA
        go_upto_region 7 with (first
          | (at_builtin
             refine wpList_append (by rfl) (.tmp 33) (.tmp 35) 24 (by rfl) fileD_ok Try.underlying24 hown6 (by rfl) hone (by rfl) (dvs_one _) hz3 hz4 hb6.size ?_
             intro v7 w7 hown7 hb7 _ _)
          | fail)
        rw [← dvs_append] at hown7
        have hb7' : Below W.heap.size W w7 := hb6.trans hb7
        have hback7 := hback5.below (hb6.trans hb7 |> fun h => (Below.refl _ w5).alloc (by have := hb5'.size; omega) (.cells #[.string x.1, .string ⟨x.2.1.toArray⟩, .int .i64 x.2.2] 27) |>.trans hb7)
        clear hown5 hown6 hone hback5 hk5 p0 p1 p2 hb6 hb7
        go_wp2_with (first
          | (at_builtin
             refine wpList_append (by rfl) (.tmp 37) (.tmp 40) 24 (by rfl) fileD_ok Try.underlying24 hown7 (by rfl) hback7 (by rfl) (dvs_one _) hz5 hz6 hb7'.size ?_
             intro v8 w8 hown8 hb8 _ _
             rw [← dvs_append] at hown8)
          | fail)
        go_ret
        have he : withL l x = R.take m2 ++ [x] ++ R.drop m2 := by
          rw [HX.out, HSP.out.1, HSP.out.2, List.append_assoc]
          rfl
        refine ⟨_, rfl, ?_, hbW.trans ((hb7'.trans hb8).mono hbW.size)⟩
        rw [he]
        have hle : (R.take m2 ++ [x] ++ R.drop m2).length = m2 + 1 + 0 := by
          simp only [List.length_append, List.length_take, List.length_drop, List.length_cons, List.length_nil]
          rw [← HM2.out]
          omega
        rw [hle]
        exact own_base3 hown8 hbW.size
      · obtain rfl : sp = none := HSN.out _ rfl
        by_cases hcc : c2 = m2
        · subst hcc
          go_wp2_with fail
          go_quiet (fail)
          go_upto_region 5 with (fail)
          have hkW : Blk (((w2.drewN k).drewN nq)) fb 27 #[.string x.1, .string ⟨x.2.1.toArray⟩, .int .i64 x.2.2] := hk2
          have hrW : Reads (((w2.drewN k).drewN nq)) (((w2.drewN k).drewN nq)).heap.size 3 (some ⟨b, o, none⟩) c2 (dvs R) := hrd
          have hbW : Below w.heap.size w (((w2.drewN k).drewN nq)) := below_drewN (below_drewN hbw2 _) _
          clear hk2 hrd hbw2 q0
          generalize ((w2.drewN k).drewN nq) = W at *
          have hown0 : (W.alloc (.cells #[] 27)).ownsRow W.heap.size 27 3 (.slice (some ⟨W.heap.size, 0, none⟩) 0 0) 0 [] := World.ownsRow_made W #[] 0 (Nat.le_refl _) (by decide) rfl
          have hbA : Below W.heap.size W (W.alloc (.cells #[] 27)) := (Below.refl _ W).alloc (Nat.le_refl _) _
          have hf0 : Reads (W.alloc (.cells #[] 27)) W.heap.size 3 (some ⟨b, o, none⟩) c2 (dvs (R.take c2)) := by
            rw [← dvs_take]
            exact (hrW.front3 ht).below hbA
          have hback : Reads W W.heap.size 3 (some ⟨b, o, none⟩) 0 (dvs (R.drop c2)) := by
            rw [← dvs_drop]
            exact (by rw [List.drop_of_length_le (by rw [dvs_len, ← HM2.out]; omega)]; exact ⟨rfl, fun h => absurd h (by decide)⟩)
          have hz1 : 0 + c2 ≤ maxLen := by unfold maxLen; omega
          have hz2 : (0 + c2) * 40 ≤ 140737488355328 := by omega
          have hz3 : c2 + 1 ≤ maxLen := by unfold maxLen; omega
          have hz4 : (c2 + 1) * 40 ≤ 140737488355328 := by omega
          have hz5 : c2 + 1 + 0 ≤ maxLen := by unfold maxLen; omega
          have hz6 : (c2 + 1 + 0) * 40 ≤ 140737488355328 := by omega
          have ht0 : (0 : Int) ≤ (c2 : Int) := by omega
          have htm : (c2 : Int) ≤ (c2 : Int) := by omega
          have htc : (c2 : Int) ≤ (c2 : Int) := by omega
          have hsub : ((c2 : Int) - (c2 : Int)).toNat = 0 := by omega
          have hkA := hkW.below hbA hkW.lt
          have qa := hkA.cell 0
          go_upto_region 6 with (first
            | (at_builtin
               go_must (refine wpList_append (by rfl) (.tmp 28) (.tmp 31) 24 (by rfl) fileD_ok Try.underlying24 hown0 (by rfl) hf0 (by rfl) (dvs_one _) hz1 hz2 (by simp) ?_)
               intro v5 w5 hown5 hb5 _ _)
            | fail)
          rw [Nat.zero_add, List.nil_append] at hown5
          have hb5' : Below W.heap.size W w5 := hbA.trans hb5
          have hk5 := hkW.below hb5' hkW.lt
          have hback5 := hback.below hb5'
          have p0 : w5.cell? ⟨fb, 0, none⟩ = some (.string x.1) := hk5.cell 0
          have p1 : w5.cell? ⟨fb, 1, none⟩ = some (.string ⟨x.2.1.toArray⟩) := hk5.cell 1
          have p2 : w5.cell? ⟨fb, 2, none⟩ = some (.int .i64 x.2.2) := hk5.cell 2
          have hone := one_reads w5 x
          have hown6 := hown5.alloc (.cells #[.string x.1, .string ⟨x.2.1.toArray⟩, .int .i64 x.2.2] 27)
          have hb6 : Below W.heap.size W (w5.alloc (.cells #[.string x.1, .string ⟨x.2.1.toArray⟩, .int .i64 x.2.2] 27)) := hb5'.alloc hb5'.size _
          clear hown0 hf0 hback hkW hkA qa hb5 hrW hbA
          go_upto_region 7 with (first
            | (at_builtin
               refine wpList_append (by rfl) (.tmp 33) (.tmp 35) 24 (by rfl) fileD_ok Try.underlying24 hown6 (by rfl) hone (by rfl) (dvs_one _) hz3 hz4 hb6.size ?_
               intro v7 w7 hown7 hb7 _ _)
            | fail)
          rw [← dvs_append] at hown7
          have hb7' : Below W.heap.size W w7 := hb6.trans hb7
          have hback7 := hback5.below (hb6.trans hb7 |> fun h => (Below.refl _ w5).alloc (by have := hb5'.size; omega) (.cells #[.string x.1, .string ⟨x.2.1.toArray⟩, .int .i64 x.2.2] 27) |>.trans hb7)
          clear hown5 hown6 hone hback5 hk5 p0 p1 p2 hb6 hb7
          go_wp2_with (first
            | (at_builtin
               refine wpList_append (by rfl) (.tmp 37) (.tmp 40) 24 (by rfl) fileD_ok Try.underlying24 hown7 (by rfl) hback7 (by rfl) (dvs_one _) hz5 hz6 hb7'.size ?_
               intro v8 w8 hown8 hb8 _ _
               rw [← dvs_append] at hown8)
            | fail)
          go_ret
          have he : withL l x = R.take c2 ++ [x] ++ R.drop c2 := by
            rw [HX.out, HSP.out.1, HSP.out.2, List.append_assoc]
            rfl
          refine ⟨_, rfl, ?_, hbW.trans ((hb7'.trans hb8).mono hbW.size)⟩
          rw [he]
          have hle : (R.take c2 ++ [x] ++ R.drop c2).length = c2 + 1 + 0 := by
            simp only [List.length_append, List.length_take, List.length_drop, List.length_cons, List.length_nil]
            rw [← HM2.out]
            omega
          rw [hle]
          exact own_base3 hown8 hbW.size
        · have hcs : ¬ c2 - m2 = 0 := by omega
          have hcs2 : ¬ ((c2 : Int) - (m2 : Int)) = 0 := by omega
          have hcs3 : ¬ m2 = c2 := fun e => hcc e.symm
          go_wp2_with fail
          go_quiet (fail)
          go_upto_region 5 with (fail)
          have hkW : Blk (((w2.drewN k).drewN nq)) fb 27 #[.string x.1, .string ⟨x.2.1.toArray⟩, .int .i64 x.2.2] := hk2
          have hrW : Reads (((w2.drewN k).drewN nq)) (((w2.drewN k).drewN nq)).heap.size 3 (some ⟨b, o, none⟩) m2 (dvs R) := hrd
          have hbW : Below w.heap.size w (((w2.drewN k).drewN nq)) := below_drewN (below_drewN hbw2 _) _
          clear hk2 hrd hbw2 q0
          generalize ((w2.drewN k).drewN nq) = W at *
          have hown0 : (W.alloc (.cells #[] 27)).ownsRow W.heap.size 27 3 (.slice (some ⟨W.heap.size, 0, none⟩) 0 0) 0 [] := World.ownsRow_made W #[] 0 (Nat.le_refl _) (by decide) rfl
          have hbA : Below W.heap.size W (W.alloc (.cells #[] 27)) := (Below.refl _ W).alloc (Nat.le_refl _) _
          have hf0 : Reads (W.alloc (.cells #[] 27)) W.heap.size 3 (some ⟨b, o, none⟩) m2 (dvs (R.take m2)) := by
            rw [← dvs_take]
            exact (hrW.front3 ht).below hbA
          have hback : Reads W W.heap.size 3 (some ⟨b, o + m2 * 3, none⟩) 0 (dvs (R.drop m2)) := by
            rw [← dvs_drop]
            exact (by have := hrW.back3 ht; rwa [Nat.sub_self] at this)
          have hz1 : 0 + m2 ≤ maxLen := by unfold maxLen; omega
          have hz2 : (0 + m2) * 40 ≤ 140737488355328 := by omega
          have hz3 : m2 + 1 ≤ maxLen := by unfold maxLen; omega
          have hz4 : (m2 + 1) * 40 ≤ 140737488355328 := by omega
          have hz5 : m2 + 1 + 0 ≤ maxLen := by unfold maxLen; omega
          have hz6 : (m2 + 1 + 0) * 40 ≤ 140737488355328 := by omega
          have ht0 : (0 : Int) ≤ (m2 : Int) := by omega
          have htm : (m2 : Int) ≤ (m2 : Int) := by omega
          have htc : (m2 : Int) ≤ (c2 : Int) := by omega
          have hsub : ((m2 : Int) - (m2 : Int)).toNat = 0 := by omega
          have hkA := hkW.below hbA hkW.lt
          have qa := hkA.cell 0
          go_upto_region 6 with (first
            | (at_builtin
               go_must (refine wpList_append (by rfl) (.tmp 28) (.tmp 31) 24 (by rfl) fileD_ok Try.underlying24 hown0 (by rfl) hf0 (by rfl) (dvs_one _) hz1 hz2 (by simp) ?_)
               intro v5 w5 hown5 hb5 _ _)
            | fail)
          rw [Nat.zero_add, List.nil_append] at hown5
          have hb5' : Below W.heap.size W w5 := hbA.trans hb5
          have hk5 := hkW.below hb5' hkW.lt
          have hback5 := hback.below hb5'
          have p0 : w5.cell? ⟨fb, 0, none⟩ = some (.string x.1) := hk5.cell 0
          have p1 : w5.cell? ⟨fb, 1, none⟩ = some (.string ⟨x.2.1.toArray⟩) := hk5.cell 1
          have p2 : w5.cell? ⟨fb, 2, none⟩ = some (.int .i64 x.2.2) := hk5.cell 2
          have hone := one_reads w5 x
          have hown6 := hown5.alloc (.cells #[.string x.1, .string ⟨x.2.1.toArray⟩, .int .i64 x.2.2] 27)
          have hb6 : Below W.heap.size W (w5.alloc (.cells #[.string x.1, .string ⟨x.2.1.toArray⟩, .int .i64 x.2.2] 27)) := hb5'.alloc hb5'.size _
          clear hown0 hf0 hback hkW hkA qa hb5 hrW hbA
          go_upto_region 7 with (first
            | (at_builtin
               refine wpList_append (by rfl) (.tmp 33) (.tmp 35) 24 (by rfl) fileD_ok Try.underlying24 hown6 (by rfl) hone (by rfl) (dvs_one _) hz3 hz4 hb6.size ?_
               intro v7 w7 hown7 hb7 _ _)
            | fail)
          rw [← dvs_append] at hown7
          have hb7' : Below W.heap.size W w7 := hb6.trans hb7
          have hback7 := hback5.below (hb6.trans hb7 |> fun h => (Below.refl _ w5).alloc (by have := hb5'.size; omega) (.cells #[.string x.1, .string ⟨x.2.1.toArray⟩, .int .i64 x.2.2] 27) |>.trans hb7)
          clear hown5 hown6 hone hback5 hk5 p0 p1 p2 hb6 hb7
          go_wp2_with (first
            | (at_builtin
               refine wpList_append (by rfl) (.tmp 37) (.tmp 40) 24 (by rfl) fileD_ok Try.underlying24 hown7 (by rfl) hback7 (by rfl) (dvs_one _) hz5 hz6 hb7'.size ?_
               intro v8 w8 hown8 hb8 _ _
               rw [← dvs_append] at hown8)
            | fail)
          go_ret
          have he : withL l x = R.take m2 ++ [x] ++ R.drop m2 := by
            rw [HX.out, HSP.out.1, HSP.out.2, List.append_assoc]
            rfl
          refine ⟨_, rfl, ?_, hbW.trans ((hb7'.trans hb8).mono hbW.size)⟩
          rw [he]
          have hle : (R.take m2 ++ [x] ++ R.drop m2).length = m2 + 1 + 0 := by
            simp only [List.length_append, List.length_take, List.length_drop, List.length_cons, List.length_nil]
            rw [← HM2.out]
            omega
          rw [hle]
          exact own_base3 hown8 hbW.size
end Go.Proofs.Ytaaaljpnhfmbpaa
