/- The walk of the law's entries; of All's iterator under a body that may stop (packages taborlaw21, cache). Conditions: those of each theorem. -/
import Derived.Test.YthfgblchlgodmaaCbE
import Derived.RangeFuncFrom
namespace Go.Proofs.Ythfgblchlgodmaa
open Go.RowKit Go.Shelf
set_option linter.unusedVariables false
attribute [local go_sem] Oper.semAt_some

theorem neq_ent (x y : ED) (w : World) : (binOp .neq 49 (.agg #[.string x.1, .string x.2]) (.agg #[.string y.1, .string y.2])).run Try.prog w = .ok (.bool (!decide (x = y))) w := by
  rw [run_neq_struct, eq_ent]
  congr 2
  rw [str_eq, str_eq]
  by_cases h : x = y
  · subst h; simp
  · rw [decide_eq_false h]
    by_cases h1 : x.1 = y.1
    · have h2 : ¬ x.2 = y.2 := fun e => h (Prod.ext h1 e)
      simp [h2]
    · simp [h1]
set_option maxHeartbeats 4000000 in
theorem entries_any {A A' : Option Addr} {n c n' c' : Nat} {l m : EL} (w : World) (hr : Reads w w.heap.size 2 A n (evs l)) (hr' : Reads w w.heap.size 2 A' n' (evs m)) (hn : n ≤ 30000) (hn' : n' ≤ 30000) :
    Calls Try.prog 22 #[.slice A n c, .slice A' n' c'] w fun e w' => e = .returned (.bool (decide (l = m))) ∧ Below w.heap.size w w' := by
  have hl := hr.elen
  have hm := hr'.elen
  by_cases hnn : n = n'
  · subst hnn
    have d0 : ((n : Int) != (n : Int)) = false := bne_self_eq_false _
    have HL := hide hl
    have HM := hide hm
    clear hl hm
    go_enter Try.func22, Try.ntmps22
    go_wp2_with fail
    go_loopw [5] (fun i wr => ∃ t : Nat, t ≤ n ∧ i = .int .i64 t ∧ l.take t = m.take t ∧ Below w.heap.size w wr) (fun i _ => n - (intOf i).toNat)
    case atStart => exact ⟨0, by omega, rfl, rfl, Below.refl _ _⟩
    case round =>
      obtain ⟨t, ht, rfl, hT, hbw⟩ := hrel
      have HT := hide hT
      clear hT
      by_cases htn : t < n
      · have htI : (t : Int) < (n : Int) := by omega
        have ht0 : (0 : Int) ≤ (t : Int) := by omega
        have hw2 : IntKind.i64.wrap ((t : Int) + 1) = (t : Int) + 1 := IntWalk.i64_in _ (by omega)
        obtain ⟨b, o, x, rfl, hb, hlx, k1, k2⟩ := (hr.below hbw).ent htn
        obtain ⟨b', o', y, rfl, hb', hly, k1', k2'⟩ := (hr'.below hbw).ent htn
        have hq := fun w => neq_ent x y w
        have HX := hide hlx
        have HY := hide hly
        clear hlx hly
        by_cases hxy : x = y
        · rw [decide_eq_true hxy] at hq
          have HE := hide hxy
          clear hxy
          go_wp2_with fail
          go_quiet (fail)
          go_wp2_with fail
          go_roundw
          case rel => exact ⟨t + 1, by omega, by simp, by rw [take_snocD HX.out, take_snocD HY.out, HT.out, HE.out], below_drewN hbw _⟩
          case measure => simp [intOf]; omega
        · rw [decide_eq_false hxy] at hq
          have HE : Hid (decide (l = m) = false) := decide_eq_false fun e => hxy (by have := HX.out; rw [e, HY.out] at this; injection this with this; exact this.symm)
          clear hxy
          go_wp2_with fail
          go_quiet (fail)
          go_wp2_with fail
          go_ret
          exact ⟨ret_bool HE.out.symm, below_drewN hbw _⟩
      · have htI : ¬ (t : Int) < (n : Int) := by omega
        have HE : Hid (decide (l = m) = true) := decide_eq_true (by
          have := HT.out
          rw [List.take_of_length_le (by rw [HL.out]; omega), List.take_of_length_le (by rw [HM.out]; omega)] at this
          exact this)
        go_wp2_with fail
        go_ret
        exact ⟨ret_bool HE.out.symm, hbw⟩
  · have d0 : ((n : Int) != (n' : Int)) = true := by simp; omega
    have HE : Hid (decide (l = m) = false) := decide_eq_false fun e => by subst e; omega
    clear hnn hl hm
    go_enter Try.func22, Try.ntmps22
    go_wp2_with fail
    go_ret
    exact ⟨ret_bool HE.out.symm, Below.refl _ _⟩

set_option maxHeartbeats 4000000 in
set_option maxRecDepth 20000 in
theorem callS_stops (m : Nat) {lo hi : Nat} {S : EL} (w : World) (hA : AllAt w lo hi S) (hhi : hi ≤ w.heap.size) (hn : S.length ≤ 30000) :
    SeqStopsK Fence.wide m Try.prog 38 #[.pointer (some ⟨lo, 0, none⟩), .pointer (some ⟨lo + 1, 0, none⟩)] enc2 (Keeps lo hi) (fun xs => xs = S) (fun _ => 0 < S.length) S.length w := by
  intro lp J Jx W hW hJ hJx hY h0
  have hAW := hA.keeps (Keeps.below hW hhi)
  clear hA
  have hAW' := hAW
  obtain ⟨A1, c1, A2, c2, k1, k2, R1, R2, hlt, hc1, hc2⟩ := hAW'
  have q1 : W.cell? ⟨lo, 0, none⟩ = some (.slice A1 S.length c1) := k1.cell 0
  clear k2 R1 R2 hc2
  refine callsIn_of_wp Try.func38 rfl trivial ?_ rfl
  simp only [Try.ntmps38, List.size_toArray, List.length_cons, List.length_nil, Nat.reduceAdd, Nat.reduceSub, Array.replicate_succ, Array.replicate_zero, List.push_toArray, List.append_toArray, List.nil_append, List.cons_append]
  gi_wp2_with fail
  gi_loopw [4, 5, 8] (fun _ _ i wr => ∃ t : Nat, i = .int .i64 t ∧ t ≤ S.length ∧ J (S.take t) wr ∧ AllAt wr lo hi S ∧ (∃ cc, Blk wr lo 60 #[.slice A1 S.length cc])) (fun _ _ i _ => S.length - (intOf i).toNat)
  case atStart => exact ⟨0, rfl, Nat.zero_le _, h0, hAW, c1, k1⟩
  case round =>
    obtain ⟨t, rfl, ht, hJt, hAt, cc, kk⟩ := hrel
    clear q1 k1 hAW
    by_cases htn : t < S.length
    · have htI : (t : Int) < (S.length : Int) := by omega
      have ht0 : (0 : Int) ≤ (t : Int) := by omega
      have hw2 : IntKind.i64.wrap ((t : Int) + 1) = (t : Int) + 1 := IntWalk.i64_in _ (by omega)
      obtain ⟨x, hx⟩ : ∃ x, S[t]? = some x := ⟨S[t]'htn, List.getElem?_eq_getElem _⟩
      have hAt' := hAt
      obtain ⟨B1, d1, B2, d2, k1, k2, R1, R2, _, e1, e2⟩ := hAt'
      have hsl : A1 = B1 := by
        have h1 := kk.symm.trans k1
        injection h1 with h1
        injection h1 with h1
        have h2 := congrArg (fun (z : Array Value) => z[0]?) h1
        simp at h2
        exact h2.1
      subst hsl
      obtain ⟨b1, o1, s1, rfl, hb1, hs1, hc1'⟩ := R1.1.text htn
      obtain ⟨b2, o2, s2, rfl, hb2, hs2, hc2'⟩ := R2.1.text htn
      rw [List.getElem?_map, hx] at hs1 hs2
      injection hs1 with hs1
      injection hs2 with hs2
      subst hs1 hs2
      have q2 : wr.cell? ⟨lo + 1, 0, none⟩ = some (.slice (some ⟨b2, o2, none⟩) S.length d2) := k2.cell 0
      have hpl : (S.take t).length = t := by rw [List.length_take]; omega
      obtain ⟨fn, tmps, assign, body, hy, hR⟩ := hY (S.take t) x wr hJt (by rw [hpl]; exact htn)
      dsimp only [enc2] at hy
      have HX := hide (take_snocD hx)
      clear hx hpl k1 k2 R1 R2
      gi_wp2_with fail
      refine ⟨fun h => (by cases h), hR.mono ?_⟩
      rintro e W3 (⟨rfl, hJ3, hk3⟩ | ⟨rfl, hJ3⟩)
      · gi_wp2_with fail
        go_roundw
        case rel =>
          exact ⟨t + 1, by simp, by omega, by rw [HX.out]; exact hJ3, hAt.keeps hk3, cc, (hk3.2 lo (Nat.le_refl _) (by omega)).trans kk⟩
        case measure => simp [intOf]; omega
      · gi_wp2_with fail
        refine bodyPost_ret (results_none rfl _ _ _) rfl ?_
        exact ⟨⟨_, rfl⟩, .inr ⟨_, by omega, hJ3⟩⟩
    · have htI : ¬ (t : Int) < (S.length : Int) := by omega
      obtain rfl : t = S.length := by omega
      gi_wp2_with fail
      go_end0
      rw [List.take_of_length_le (Nat.le_refl _)] at hJt
      first | exact ⟨⟨_, rfl⟩, .inl ⟨S, rfl, hJt⟩⟩ | exact ⟨⟨_, rfl⟩, .inl hJt⟩
end Go.Proofs.Ythfgblchlgodmaa
