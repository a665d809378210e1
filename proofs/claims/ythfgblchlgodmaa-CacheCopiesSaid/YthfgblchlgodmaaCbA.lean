/- The walk of the law's is at a cache that has just these entries (package taborlaw21). Conditions: those of each theorem. -/
import Derived.Test.YthfgblchlgodmaaCaZ
import Derived.BigQuiet
import Derived.Deep.QuietTactic
namespace Go.Proofs.Ythfgblchlgodmaa
open Go.RowKit
set_option linter.unusedVariables false

theorem cgetE {g r1 r2 : Nat} {S N : EL} (k : ByteArray) (w : World) (h : CE w g r1 r2 S N) :
    Calls Try.prog 13 #[.pointer (some ⟨g, 0, none⟩), .string k] w fun e w' => e = .returned (findV (findL S k)) ∧ w = w' := by
  obtain ⟨ss, ns, hq, p1, p2, s1, s2⟩ := h
  refine (cget_any k w hq).mono ?_
  rintro e w' ⟨rfl, rfl⟩
  rw [look_eKV, find_of_perm p1 s1]
  cases findL S k <;> exact ⟨rfl, rfl⟩
theorem cnamedE {g r1 r2 : Nat} {S N : EL} (k : ByteArray) (w : World) (h : CE w g r1 r2 S N) :
    Calls Try.prog 15 #[.pointer (some ⟨g, 0, none⟩), .string k] w fun e w' => e = .returned (findV (findL N k)) ∧ w = w' := by
  obtain ⟨ss, ns, hq, p1, p2, s1, s2⟩ := h
  refine (cnamed_any k w hq).mono ?_
  rintro e w' ⟨rfl, rfl⟩
  rw [look_eKV, find_of_perm p2 s2]
  cases findL N k <;> exact ⟨rfl, rfl⟩
theorem clenE {g r1 r2 : Nat} {S N : EL} (w : World) (h : CE w g r1 r2 S N) (h1 : S.length ≤ 100000) (h2 : N.length ≤ 100000) :
    Calls Try.prog 28 #[.pointer (some ⟨g, 0, none⟩)] w fun e w' => e = .returned (.int .i64 (S.length + N.length : Nat)) ∧ ∃ m, w' = w.drewN m := by
  obtain ⟨ss, ns, hq, p1, p2, s1, s2, l1, l2⟩ := h.lens
  have := clen_any w hq (by omega) (by omega)
  rw [l1, l2] at this
  exact this
theorem eq_ent (n n' b b' : ByteArray) (w : World) : (Op.equalIn 10000 49 (.agg #[.string n, .string b]) (.agg #[.string n', .string b'])).run Try.prog w = .ok (n.toList == n'.toList && b.toList == b'.toList) w := by
  have u9 := Try.underlying9
  have a9 := Try.isAgg9
  have z9 := Try.sizeOf9
  have hS : Try.prog.underlying 49 = some (.struct (Try.prog.fieldsOf 49)) := by kernel_rfl
  have hp : Try.prog.stoodInHeld 49 = false := by kernel_rfl
  rw [show (10000 : Nat) = 9999 + 1 from rfl, run_equalIn_agg w 9999 49 _ _ hS hp]
  simp only [Program.fieldsOf, Try.underlying49]
  go_simp
  cases h1 : n.toList == n'.toList <;> cases h2 : b.toList == b'.toList <;> simp_all
theorem neq_ent_same (n b : ByteArray) (w : World) : (binOp .neq 49 (.agg #[.string n, .string b]) (.agg #[.string n, .string b])).run Try.prog w = .ok (.bool false) w := by
  rw [run_neq_struct, eq_ent]
  simp

set_option maxHeartbeats 8000000 in
set_option maxRecDepth 20000 in
theorem is_any {g r1 r2 : Nat} {S N : EL} {A1 A2 : Option Addr} {n1 c1 n2 c2 : Nat} (w : World) (h : CE w g r1 r2 S N) (R1 : Reads w w.heap.size 2 A1 n1 (evs S)) (R2 : Reads w w.heap.size 2 A2 n2 (evs N)) (hn1 : S.length ≤ 30000) (hn2 : N.length ≤ 30000) (hs1 : ∀ x ∈ S, x.1.size ≤ maxLen) (hs2 : ∀ x ∈ N, x.1.size ≤ maxLen) :
    Calls Try.prog 16 #[.pointer (some ⟨g, 0, none⟩), .agg #[.slice A1 n1 c1, .slice A2 n2 c2]] w fun e w' => e = .returned (.bool true) ∧ Below w.heap.size w w' := by
  have hl1 := R1.elen
  have hl2 := R2.elen
  subst hl1 hl2
  have k3 := Blk.new w 30 #[.slice A1 S.length c1, .slice A2 N.length c2]
  have hb0 : Below w.heap.size w (w.alloc (.cells #[.slice A1 S.length c1, .slice A2 N.length c2] 30)) := (Below.refl _ w).alloc (Nat.le_refl _) _
  go_enter Try.func16, Try.ntmps16
  go_upto_region 1 with (fail)
  generalize w.alloc (.cells #[.slice A1 S.length c1, .slice A2 N.length c2] 30) = w1 at *
  have h1 := h.below hb0
  have HA := hide (lawAll_any w1 h1 hn1 hs1)
  go_upto_region 2 with (first
    | (go_at_call 30
       go_must (
       refine HA.out.mono ?_
       rintro e w2 ⟨A5, n5, c5, rfl, hE5, hb2⟩
       have hn5 := hE5.len
       subst hn5
       have HN := hide (cnames_any w2 (h1.below hb2) hn2 hs2)))
    | (go_at_call 29
       go_must (
       refine HN.out.mono ?_
       rintro e w3 ⟨v3, rfl, hrow3, hb3⟩
       obtain ⟨A6, n6, c6, rfl⟩ := own_sliceN hrow3
       have hn6 := own_len2 hrow3
       subst hn6))
    | fail)
  have hb13 := hb2.trans (hb3.mono hb2.size)
  have h3 := h1.below hb13
  have kk3 := k3.below hb13 k3.lt
  have hbw3 := hb0.trans (hb13.mono hb0.size)
  have E5 := (Reads.of_own2 hE5).below hb3
  have R6 := Reads.of_own hrow3
  have Q1 := R1.below hbw3
  have Q2 := R2.below hbw3
  have hz23 := hb3.size
  have hz03 := hbw3.size
  clear h h1 R1 R2 k3 hb0 hE5 hrow3 hb2 hb3 hb13 HA HN
  have HL := hide (clenE w3 h3 (by omega) (by omega))
  have q0 := kk3.cell 0
  have q1 := kk3.cell 1
  have e1 : ((S.length : Int) != (S.length : Int)) = false := bne_self_eq_false _
  have e2 : ((N.length : Int) != (N.length : Int)) = false := bne_self_eq_false _
  have e3 : IntKind.i64.wrap ((S.length : Int) + (N.length : Int)) = ((S.length + N.length : Nat) : Int) := by rw [IntWalk.i64_in _ (by omega)]; omega
  have e4 : (((S.length + N.length : Nat) : Int) != ((S.length + N.length : Nat) : Int)) = false := bne_self_eq_false _
  go_upto_region 4 with (first
    | (go_at_call 28; go_must (refine HL.out.mono ?_; rintro e w4 ⟨rfl, m4, hw4⟩; have hb34 : Below w3.heap.size w3 w4 := (by rw [hw4]; exact below_drewN (Below.refl _ _) _); clear hw4))
    | fail)
  have h4 := h3.below hb34
  have kk4 := kk3.below hb34 kk3.lt
  have hbw4 := hbw3.trans (hb34.mono hz03)
  have E5 := (E5.below (hb34.mono hz23)).more (Nat.le_trans hz23 hb34.size)
  have R6 := (R6.below hb34).more hb34.size
  have Q1 := (Q1.below (hb34.mono hz03)).more (Nat.le_trans hz03 hb34.size)
  have Q2 := (Q2.below (hb34.mono hz03)).more (Nat.le_trans hz03 hb34.size)
  have hr := h4
  obtain ⟨_, _, _, _, _, hRS, hRN⟩ := hr
  clear h3 kk3 hb34 hbw3 HL q0 q1 hz23 hz03
  go_wp2_with fail
  go_loopw [7] (fun i wr => ∃ t : Nat, t ≤ S.length ∧ i = .int .i64 t ∧ Below w4.heap.size w4 wr) (fun i _ => S.length - (intOf i).toNat)
  case atStart => exact ⟨0, by omega, rfl, Below.refl _ _⟩
  case round =>
    obtain ⟨t, ht, rfl, hbr⟩ := hrel
    have kr := kk4.below hbr kk4.lt
    have q0 := kr.cell 0
    have q1 := kr.cell 1
    by_cases htn : t < S.length
    · have htI : (t : Int) < (S.length : Int) := by omega
      have ht0 : (0 : Int) ≤ (t : Int) := by omega
      have hw2 : IntKind.i64.wrap ((t : Int) + 1) = (t : Int) + 1 := IntWalk.i64_in _ (by omega)
      obtain ⟨b5, o5, x, rfl, hb5, hx5, a0, a1⟩ := (E5.below hbr).ent htn
      obtain ⟨b7, o7, y, rfl, hb7, hy7, d0, d1⟩ := (Q1.below hbr).ent htn
      obtain rfl : x = y := by rw [hx5] at hy7; injection hy7
      have HG := cgetE x.1 wr (h4.below hbr)
      rw [find_at hRS hx5] at HG
      have HG := hide HG
      have hq := fun w => neq_ent_same x.1 x.2 w
      have hs : (x.2.toList != x.2.toList) = false := bne_self_eq_false _
      clear hx5 hy7
      go_upto_region 8 with (first
        | (go_at_call 13; go_must (refine HG.out.mono ?_; rintro e w5 ⟨rfl, rfl⟩; unfold findV))
        | fail)
      go_quiet (fail)
      go_wp2_with fail
      go_roundw
      case rel => exact ⟨t + 1, by omega, by simp, below_drewN hbr _⟩
      case measure => simp [intOf]; omega
    · have htI : ¬ (t : Int) < (S.length : Int) := by omega
      clear q0 q1
      go_upto_region 10 with (fail)
      have h5 := h4.below hbr
      have hbw5 := hbw4.trans (hbr.mono hbw4.size)
      have R6 := (R6.below hbr).more hbr.size
      have Q2 := (Q2.below hbr).more hbr.size
      clear h4 kk4 hbw4 E5 Q1 hbr
      generalize wr = wq at *
      go_wp2_with fail
      go_loopw [10] (fun i wr => ∃ t : Nat, t ≤ N.length ∧ i = .int .i64 t ∧ Below wq.heap.size wq wr) (fun i _ => N.length - (intOf i).toNat)
      case atStart => exact ⟨0, by omega, rfl, Below.refl _ _⟩
      case round =>
        obtain ⟨t, ht, rfl, hbr⟩ := hrel
        have kr2 := kr.below hbr kr.lt
        have q0 := kr2.cell 0
        have q1 := kr2.cell 1
        by_cases htn : t < N.length
        · have htI : (t : Int) < (N.length : Int) := by omega
          have ht0 : (0 : Int) ≤ (t : Int) := by omega
          have hw2 : IntKind.i64.wrap ((t : Int) + 1) = (t : Int) + 1 := IntWalk.i64_in _ (by omega)
          obtain ⟨b5, o5, s, rfl, hb5, hx5, a0⟩ := (R6.below hbr).text htn
          obtain ⟨b7, o7, y, rfl, hb7, hy7, d0, d1⟩ := (Q2.below hbr).ent htn
          obtain rfl : y.1 = s := by rw [List.getElem?_map, hy7] at hx5; injection hx5
          have HG := cnamedE y.1 wr (h5.below hbr)
          rw [find_at hRN hy7] at HG
          have HG := hide HG
          have hs : (y.2.toList != y.2.toList) = false := bne_self_eq_false _
          have hs0 : (y.1.toList != y.1.toList) = false := bne_self_eq_false _
          clear hx5 hy7
          go_upto_region 14 with (first
            | (go_at_call 15; go_must (refine HG.out.mono ?_; rintro e w5 ⟨rfl, rfl⟩; unfold findV))
            | fail)
          go_quiet (fail)
          go_wp2_with fail
          go_roundw
          case rel => exact ⟨t + 1, by omega, by simp, below_drewN hbr _⟩
          case measure => simp [intOf]; omega
        · have htI : ¬ (t : Int) < (N.length : Int) := by omega
          clear q0 q1
          go_wp2_with fail
          go_ret
          exact ⟨rfl, hbw5.trans (hbr.mono hbw5.size)⟩
end Go.Proofs.Ythfgblchlgodmaa
