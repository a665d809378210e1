/- The walk of the law CachePlays (package taborlaw21). Conditions: those of the theorem. -/
import Derived.Test.YthfgblchlgodmaaCbA
namespace Go.Proofs.Ythfgblchlgodmaa
open Go.RowKit
set_option linter.unusedVariables false

def fS (o : Option ED) : ByteArray := (o.map (·.2)).getD ⟨#[]⟩
theorem findV_eq (o : Option ED) : findV o = .tuple #[.string (fS o), .bool o.isSome] := by cases o <;> rfl
theorem CE.made {w : World} {g r1 r2 : Nat} (h : CQ w g r1 r2 [] []) : CE w g r1 r2 [] [] := ⟨[], [], h, .refl _, .refl _, List.Pairwise.nil, List.Pairwise.nil⟩
theorem nameS_len {s : ByteArray} (h : nameS s = true) : s.size ≤ 64 := by
  unfold nameS at h
  simp only [Bool.and_eq_true, decide_eq_true_eq] at h
  omega
theorem dig_len (s : ByteArray) : (digS s).size = 40 := by
  unfold digS
  show (textOf (digSt s.data.toList)).toArray.size = 40
  rw [List.size_toArray]
  unfold textOf
  rw [List.length_map, List.length_range]
theorem play_keys (l : List CAct) : (∀ x ∈ (playS l).1, x.1.size ≤ maxLen) ∧ (∀ x ∈ (playS l).2, x.1.size ≤ maxLen) := by
  have h : ∀ (l : List CAct) (p : EL × EL), (∀ x ∈ p.1, x.1.size ≤ 100) ∧ (∀ x ∈ p.2, x.1.size ≤ 100) → (∀ x ∈ (l.foldl (fun p x => (doS p.1 p.2 x, doN p.1 p.2 x)) p).1, x.1.size ≤ 100) ∧ (∀ x ∈ (l.foldl (fun p x => (doS p.1 p.2 x, doN p.1 p.2 x)) p).2, x.1.size ≤ 100) := by
    intro l
    induction l with
    | nil => exact fun p h => h
    | cons a l ih =>
      intro p hp
      refine ih _ ⟨fun x hx => ?_, fun x hx => ?_⟩
      · dsimp only at hx
        unfold doS at hx
        split at hx
        · rcases List.mem_cons.1 ((with_perm _ _).mem_iff.1 hx) with rfl | hx
          · show (digS a.script).size ≤ 100
            rw [dig_len]
            omega
          · exact hp.1 x (drop_mem hx).1
        · split at hx
          · cases hx
          · exact hp.1 x hx
      · dsimp only at hx
        unfold doN at hx
        split at hx
        · split at hx
          · rename_i hn
            rcases List.mem_cons.1 ((with_perm _ _).mem_iff.1 hx) with rfl | hx
            · show a.name.size ≤ 100
              have := nameS_len hn
              omega
            · exact hp.2 x (drop_mem hx).1
          · exact hp.2 x hx
        · split at hx
          · split at hx
            · exact hp.2 x (drop_mem hx).1
            · exact hp.2 x hx
          · exact hp.2 x hx
  have := h l ([], []) ⟨fun x hx => (by cases hx), fun x hx => (by cases hx)⟩
  unfold playS maxLen
  exact ⟨fun x hx => by have := this.1 x hx; omega, fun x hx => by have := this.2 x hx; omega⟩
theorem play_lens (l : List CAct) (hs : asum l ≤ 3000) : (playS l).1.length ≤ 60 ∧ (playS l).2.length ≤ 60 := by
  have h1 := asum_len l
  have h2 := play_len l l.length
  rw [List.take_of_length_le (Nat.le_refl _)] at h2
  omega

set_option maxHeartbeats 8000000 in
set_option maxRecDepth 20000 in
theorem cachePlays_any (A : Option Addr) (n c : Nat) (l : List CAct) (key : ByteArray) (w : World) (hr : Reads w w.heap.size 3 A n (avs l)) (hn : n ≤ maxLen) (hs : ∀ x ∈ l, x.name.size ≤ 140737488351232 ∧ x.script.size ≤ 140737488351232) (hk : key.size ≤ 140737488351232) :
    Calls Try.prog 4 #[.slice A n c, .string key] w fun e w' => e = .returned (.bool true) ∧ Below w.heap.size w w' := by
  have HF := hide (few_any (c := c) w hr hn hs)
  go_enter Try.func4, Try.ntmps4
  cases hf : fewB l with
  | false =>
    rw [hf] at HF
    go_wp2_with (first
      | (go_at_call 10; go_must (refine HF.out.mono ?_; rintro e w1 ⟨rfl, hb1⟩))
      | (go_at_call 9; go_must (refine (works_any _).mono ?_; rintro e w2 ⟨rfl, hb2⟩))
      | fail)
    go_ret
    exact ⟨rfl, hb1.trans (hb2.mono hb1.size)⟩
  | true =>
    rw [hf] at HF
    obtain ⟨hsum, hwh⟩ := few_yes hf
    clear hf
    by_cases h2 : 3000 < key.size
    · have d2 : decide (3000 < key.size) = true := decide_eq_true h2
      have d2' : decide ((3000 : Int) < (key.size : Int)) = true := decide_eq_true (by omega)
      clear h2
      go_wp2_with (first
        | (go_at_call 10; go_must (refine HF.out.mono ?_; rintro e w1 ⟨rfl, hb1⟩))
        | (go_at_call 9; go_must (refine (works_any _).mono ?_; rintro e w2 ⟨rfl, hb2⟩))
        | fail)
      go_ret
      exact ⟨rfl, hb1.trans (hb2.mono hb1.size)⟩
    · have d2 : decide (3000 < key.size) = false := decide_eq_false h2
      have d2' : decide ((3000 : Int) < (key.size : Int)) = false := decide_eq_false (by omega)
      clear h2
      go_upto_region 4 with (first
        | (go_at_call 10; go_must (refine HF.out.mono ?_; rintro e w1 ⟨rfl, hb1⟩))
        | (go_at_call 11
           go_must (
           refine (cnew_any w1).mono ?_
           rintro e w2 ⟨g, r1, r2, rfl, hq2, hg, hr1, hr2, hb2⟩))
        | fail)
      have hbw2 := hb1.trans (hb2.mono hb1.size)
      have HP := hide (played_any (c := c) w2 ((hr.below hbw2).more hbw2.size) (CE.made hq2) hsum hwh)
      obtain ⟨hk1, hk2⟩ := play_keys l
      obtain ⟨hl1, hl2⟩ := play_lens l hsum
      obtain ⟨P, hP⟩ : ∃ P, P = playS l := ⟨_, rfl⟩
      rw [← hP] at HP hk1 hk2 hl1 hl2
      have hz1 := hb1.size
      have hB := And.intro (Nat.le_trans hz1 hr1) (Nat.le_trans hz1 hr2)
      clear d2 d2' HF hq2 hr hP hsum hwh hb1 hb2 hr1 hr2 hs
      go_upto_region 5 with (first
        | (go_at_call 12
           go_must (
           refine HP.out.mono ?_
           rintro e w3 ⟨A1, n1, c1, A2, n2, c2, rfl, hC3, hE1, hE2, hM3⟩
           have k6 := Blk.new w3 30 #[.slice A1 n1 c1, .slice A2 n2 c2]))
        | fail)
      have hb3 := hM3.below hbw2.size hB.1 hB.2
      have hz23 := hM3.size
      have hn1 := hE1.len
      have hn2 := hE2.len
      subst hn1 hn2
      have hb4 : Below w3.heap.size w3 (w3.alloc (.cells #[.slice A1 P.1.length c1, .slice A2 P.2.length c2] 30)) := (Below.refl _ w3).alloc (Nat.le_refl _) _
      generalize w3.alloc (.cells #[.slice A1 P.1.length c1, .slice A2 P.2.length c2] 30) = w4 at *
      have hC4 := hC3.below hb4
      have R1 := Reads.of_own2 (own_below hE1 hb4)
      have R2 := Reads.of_own2 (own_below hE2 hb4)
      have hbw4 := (hbw2.trans hb3).trans (hb4.mono (Nat.le_trans hbw2.size hz23))
      have q0 := k6.cell 0
      have q1 := k6.cell 1
      have H1 := cgetE key w4 hC4
      have H2 := cnamedE key w4 hC4
      have H3 := rfind_any (c := c1) (name := key) w4 R1 (by omega)
      have H4 := rfind_any (c := c2) (name := key) w4 R2 (by omega)
      rw [findV_eq] at H1 H2 H3 H4
      have s1 : ((fS (findL P.1 key)).toList == (fS (findL P.1 key)).toList) = true := beq_self_eq_true _
      have s2 : ((fS (findL P.2 key)).toList == (fS (findL P.2 key)).toList) = true := beq_self_eq_true _
      have s3 : ((findL P.1 key).isSome == (findL P.1 key).isSome) = true := beq_self_eq_true _
      have s4 : ((findL P.2 key).isSome == (findL P.2 key).isSome) = true := beq_self_eq_true _
      have HI := hide (is_any (c1 := c1) (c2 := c2) w4 hC4 R1 R2 (by omega) (by omega) hk1 hk2)
      have H1 := hide H1
      have H2 := hide H2
      have H3 := hide H3
      have H4 := hide H4
      clear hC3 hE1 hE2 hM3 hb3 hb4 HP R1 R2 hC4
      generalize fS (findL P.1 key) = a1 at *
      generalize fS (findL P.2 key) = a2 at *
      generalize (findL P.1 key).isSome = a3 at *
      generalize (findL P.2 key).isSome = a4 at *
      go_wp2_with (first
        | (go_at_call 13; go_must (refine H1.out.mono ?_; rintro e w5 ⟨rfl, rfl⟩))
        | (go_at_call 15; go_must (refine H2.out.mono ?_; rintro e w5 ⟨rfl, rfl⟩))
        | (go_at_call_of 14 (Value.slice A1 P.1.length c1); go_must (refine H3.out.mono ?_; rintro e w5 ⟨rfl, rfl⟩))
        | (go_at_call_of 14 (Value.slice A2 P.2.length c2); go_must (refine H4.out.mono ?_; rintro e w5 ⟨rfl, rfl⟩))
        | (go_at_call 16; go_must (refine HI.out.mono ?_; rintro e w6 ⟨rfl, hb6⟩))
        | (go_at_call 9; go_must (refine (works_any _).mono ?_; rintro e w7 ⟨rfl, hb7⟩))
        | fail)
      go_ret
      exact ⟨rfl, hbw4.trans ((hb6.trans (hb7.mono hb6.size)).mono hbw4.size)⟩
end Go.Proofs.Ythfgblchlgodmaa
