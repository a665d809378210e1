/- The walk of the document's Crash (package taborref02). Conditions: those of the theorem. (Printed by wip/gen_dkcr.py.) -/
import Derived.Test.YtaaaljpnhfmbpaaDkFit
import Derived.Lib.MinMax
namespace Go.Proofs.Ytaaaljpnhfmbpaa
open Go.RowKit
set_option linter.unusedVariables false

theorem crashL_len (ks : List Int) (l : FL) : (crashL ks l).length = l.length := by unfold crashL; rw [List.length_mapIdx]
set_option maxHeartbeats 8000000 in
set_option maxRecDepth 20000 in
theorem rcrash_any {A K : Option Addr} {n c mk ck : Nat} {l : FL} {ks : List Int} (w : World) (hr : Reads w w.heap.size 3 A n (dvs l)) (hn : n ≤ 50000) (hk : Reads w w.heap.size 1 K mk (ivs ks)) (hmk : mk ≤ maxLen) (hfl : ∀ x ∈ l, x.2.1.length ≤ 1048576 ∧ x.2.2 ≤ x.2.1.length) :
    Calls Try.prog 30 #[.slice A n c, .slice K mk ck] w fun e w' => ∃ v, e = .returned v ∧ w'.ownsRow w.heap.size 27 3 v l.length (dvs (crashL ks l)) ∧ Below w.heap.size w w' := by
  have HL := hide hr.dlen
  have HKL := hide hk.ilen
  unfold maxLen at hmk
  go_enter Try.func30, Try.ntmps30
  go_wp2_with fail
  go_loopw [5, 6] (fun out i wr => ∃ (t : Nat), t ≤ n ∧ i = .int .i64 t ∧ wr.ownsRow w.heap.size 27 3 out t (dvs (crashL ks (l.take t))) ∧ Below w.heap.size w wr) (fun _ i _ => n - (intOf i).toNat)
  case atStart => exact ⟨0, by omega, rfl, World.ownsRow_nil _ _ _ _, Below.refl _ _⟩
  case round =>
    obtain ⟨t, ht, rfl, hown, hbw⟩ := hrel
    by_cases htn : t < n
    · have htI : (t : Int) < (n : Int) := by omega
      have ht0 : (0 : Int) ≤ (t : Int) := by omega
      have hw2 : IntKind.i64.wrap ((t : Int) + 1) = (t : Int) + 1 := IntWalk.i64_in _ (by omega)
      obtain ⟨b, o, x, rfl, hb, hlx, k1, k2, k3⟩ := (hr.below hbw).dat htn
      obtain ⟨hx1, hx2⟩ := hfl x (List.mem_of_getElem? hlx)
      have HC : Hid (crashL ks (l.take (t + 1)) = crashL ks (l.take t) ++ [crash1 ks t x]) := by
        show _ = _
        rw [take_snocD hlx, crashL_snoc, List.length_take, Nat.min_eq_left (by have := HL.out; omega)]
      obtain ⟨S, hS⟩ : ∃ S : ByteArray, S = ⟨x.2.1.toArray⟩ := ⟨_, rfl⟩
      rw [← hS] at k2
      have HS := hide hS
      have hSz : S.size = x.2.1.length := by rw [hS, size_of_arr]
      have hml := moreN_le ks t x.2.1.length x.2.2 hx2
      obtain ⟨N, hN⟩ : ∃ N, N = moreN ks t x.2.1.length x.2.2 := ⟨_, rfl⟩
      have HN := hide hN
      rw [← hN] at hml
      clear hS hlx hN
      by_cases hi : t < mk
      · obtain ⟨kb, ko, z, rfl, hkb, hz, hcz⟩ := (hk.below hbw).ivAt hi
        have hiI : (t : Int) < (mk : Int) := by omega
        have hwd : IntKind.i64.wrap ((x.2.1.length : Int) - ((x.2.2 : Nat) : Int)) = (x.2.1.length : Int) - ((x.2.2 : Nat) : Int) := IntWalk.i64_in _ (by omega)
        have hM := moreN_some hz x.2.1.length x.2.2
        rw [← HN.out] at hM
        clear hz
        go_wp2_with fail
        go_quiet (fail)
        have hown1 : (wr.drewN nq).ownsRow w.heap.size 27 3 _ t (dvs (crashL ks (l.take t))) := hown
        have hbw1 : Below w.heap.size w (wr.drewN nq) := below_drewN hbw _
        have j1 : (wr.drewN nq).cell? ⟨b, o + t * 3, none⟩ = some (.string x.1) := k1
        have j2 : (wr.drewN nq).cell? ⟨b, o + t * 3 + 1, none⟩ = some (.string S) := k2
        have j3 : (wr.drewN nq).cell? ⟨b, o + t * 3 + 2, none⟩ = some (.int .i64 ((x.2.2 : Nat) : Int)) := k3
        obtain ⟨Q, hQ⟩ : ∃ Q, Q = x.2.2 + N := ⟨_, rfl⟩
        have hwa : IntKind.i64.wrap (((x.2.2 : Nat) : Int) + (N : Int)) = (Q : Int) := by rw [IntWalk.i64_in _ (by omega)]; omega
        have hQ0 : (0 : Int) ≤ (Q : Int) := by omega
        have hQ1 : (Q : Int) ≤ (S.size : Int) := by omega
        obtain ⟨T, hT⟩ : ∃ T : ByteArray, T = S.extract 0 Q := ⟨_, rfl⟩
        have hTl : (x.2.1.take Q).length = Q := by rw [List.length_take]; omega
        have hTe : T = ⟨(x.2.1.take Q).toArray⟩ := by rw [hT, HS.out, arr_take]
        have hTs : T.size = Q := by rw [hTe, size_of_arr, hTl]
        have HTE := hide hTe
        have hTT := hT.symm
        have HQ : Hid (crash1 ks t x = (x.1, x.2.1.take Q, Q)) := by show _ = _; unfold crash1; rw [← HN.out, ← hQ]
        have hz1 : t + 1 ≤ maxLen := by unfold maxLen; omega
        have hz2 : (t + 1) * 40 ≤ 140737488355328 := by omega
        clear hown hbw k1 k2 k3 hQ hT hTe hTl hSz hml hx1 hx2 hcz hM hwd
        generalize (wr.drewN nq) = W at *
        go_upto_region 8 with (fail)
        go_quiet (fail)
        have hown2 : (W.drewN nq).ownsRow w.heap.size 27 3 _ t (dvs (crashL ks (l.take t))) := hown1
        have hbw2 : Below w.heap.size w (W.drewN nq) := below_drewN hbw1 _
        have i1 : (W.drewN nq).cell? ⟨b, o + t * 3, none⟩ = some (.string x.1) := j1
        clear hown1 hbw1 j1 j2 j3 hwa hQ0 hQ1
        generalize W.drewN nq = V at *
        have hone := one_reads V (x.1, x.2.1.take Q, Q)
        dsimp only at hone
        rw [← HTE.out] at hone
        have hown3 := hown2.alloc (.cells #[.string x.1, .string T, .int .i64 Q] 27)
        have hb3 : Below w.heap.size w (V.alloc (.cells #[.string x.1, .string T, .int .i64 Q] 27)) := hbw2.alloc hbw2.size _
        go_wp2_with (first
          | (at_builtin
             refine wpList_append (by rfl) (.tmp 50) (.tmp 60) 24 (by rfl) fileD_ok Try.underlying24 hown3 (by rfl) hone (by rfl) (dvs_one _) hz1 hz2 hb3.size ?_
             intro v4 w4 hown4 hb4 _ _
             rw [← dvs_append] at hown4)
          | fail)
        go_roundw
        case rel => exact ⟨t + 1, by omega, by simp, by rw [HC.out, HQ.out]; exact hown4, hb3.trans hb4⟩
        case measure => simp [intOf]; omega
      · have hiI : ¬ (t : Int) < (mk : Int) := by omega
        have hN0 : N = 0 := by rw [HN.out]; exact moreN_none (by rw [List.getElem?_eq_none]; rw [HKL.out]; omega) _ _
        have hown1 := hown
        have hbw1 : Below w.heap.size w wr := hbw
        have j1 : wr.cell? ⟨b, o + t * 3, none⟩ = some (.string x.1) := k1
        have j2 : wr.cell? ⟨b, o + t * 3 + 1, none⟩ = some (.string S) := k2
        have j3 : wr.cell? ⟨b, o + t * 3 + 2, none⟩ = some (.int .i64 ((x.2.2 : Nat) : Int)) := k3
        obtain ⟨Q, hQ⟩ : ∃ Q, Q = x.2.2 + N := ⟨_, rfl⟩
        have hwa : IntKind.i64.wrap (((x.2.2 : Nat) : Int) + 0) = (Q : Int) := by rw [IntWalk.i64_in _ (by omega)]; omega
        have hwa2 : IntKind.i64.wrap (((x.2.2 : Nat) : Int)) = (Q : Int) := by rw [IntWalk.i64_in _ (by omega)]; omega
        have hQ0 : (0 : Int) ≤ (Q : Int) := by omega
        have hQ1 : (Q : Int) ≤ (S.size : Int) := by omega
        obtain ⟨T, hT⟩ : ∃ T : ByteArray, T = S.extract 0 Q := ⟨_, rfl⟩
        have hTl : (x.2.1.take Q).length = Q := by rw [List.length_take]; omega
        have hTe : T = ⟨(x.2.1.take Q).toArray⟩ := by rw [hT, HS.out, arr_take]
        have hTs : T.size = Q := by rw [hTe, size_of_arr, hTl]
        have HTE := hide hTe
        have hTT := hT.symm
        have HQ : Hid (crash1 ks t x = (x.1, x.2.1.take Q, Q)) := by show _ = _; unfold crash1; rw [← HN.out, ← hQ]
        have hz1 : t + 1 ≤ maxLen := by unfold maxLen; omega
        have hz2 : (t + 1) * 40 ≤ 140737488355328 := by omega
        clear hown hbw k1 k2 k3 hQ hT hTe hTl hSz hml hx1 hx2 hN0
        obtain ⟨W, hW⟩ : ∃ W, W = wr := ⟨_, rfl⟩
        rw [← hW] at hown1 hbw1 j1 j2 j3
        simp only [← hW]
        clear hW
        go_upto_region 8 with (fail)
        go_quiet (fail)
        have hown2 : (W.drewN nq).ownsRow w.heap.size 27 3 _ t (dvs (crashL ks (l.take t))) := hown1
        have hbw2 : Below w.heap.size w (W.drewN nq) := below_drewN hbw1 _
        have i1 : (W.drewN nq).cell? ⟨b, o + t * 3, none⟩ = some (.string x.1) := j1
        clear hown1 hbw1 j1 j2 j3 hwa hwa2 hQ0 hQ1
        generalize W.drewN nq = V at *
        have hone := one_reads V (x.1, x.2.1.take Q, Q)
        dsimp only at hone
        rw [← HTE.out] at hone
        have hown3 := hown2.alloc (.cells #[.string x.1, .string T, .int .i64 Q] 27)
        have hb3 : Below w.heap.size w (V.alloc (.cells #[.string x.1, .string T, .int .i64 Q] 27)) := hbw2.alloc hbw2.size _
        go_wp2_with (first
          | (at_builtin
             refine wpList_append (by rfl) (.tmp 50) (.tmp 60) 24 (by rfl) fileD_ok Try.underlying24 hown3 (by rfl) hone (by rfl) (dvs_one _) hz1 hz2 hb3.size ?_
             intro v4 w4 hown4 hb4 _ _
             rw [← dvs_append] at hown4)
          | fail)
        go_roundw
        case rel => exact ⟨t + 1, by omega, by simp, by rw [HC.out, HQ.out]; exact hown4, hb3.trans hb4⟩
        case measure => simp [intOf]; omega
    · have htI : ¬ (t : Int) < (n : Int) := by omega
      have htn' : t = n := by omega
      go_wp2_with fail
      go_ret
      refine ⟨_, rfl, ?_, hbw⟩
      rw [List.take_of_length_le (by rw [HL.out]; omega)] at hown
      rw [HL.out, ← htn']
      exact hown
end Go.Proofs.Ytaaaljpnhfmbpaa
