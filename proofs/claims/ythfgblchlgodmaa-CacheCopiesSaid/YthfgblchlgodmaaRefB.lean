/- The walk of the document's round (package taborref01). Conditions: the words fit 32 bits, the round is one of eighty. -/
import Derived.Test.YthfgblchlgodmaaShaA
namespace Go.Proofs.Ythfgblchlgodmaa
open Go.RowKit
set_option linter.unusedVariables false

theorem rround_any (t b c d : Nat) (ht : t < 80) (hb : b < 4294967296) (hc : c < 4294967296) (hd : d < 4294967296) (w : World) :
    Calls Try.prog 64 #[.int .i64 t, .int .u64 b, .int .u64 c, .int .u64 d] w fun e w' => e = .returned (.tuple #[.int .u64 (rndF (t / 20) b c d : Nat), .int .u64 (rndK (t / 20) : Nat)]) ∧ w = w' := by
  have hpar : bits .xor .u64 (bits .xor .u64 (b : Int) (c : Int)) (d : Int) = ((parF b c d : Nat) : Int) := by
    obtain ⟨e1, l1⟩ := xor64' (a := (b : Int)) (b := (c : Int)) rfl rfl hb hc
    exact (xor64' e1 rfl l1 hd).1
  have hch : bits .or .u64 (bits .and .u64 (b : Int) (c : Int)) (bits .and .u64 (4294967295 - (b : Int)) (d : Int)) = ((chF b c d : Nat) : Int) := by
    obtain ⟨e1, l1⟩ := and64 (a := (b : Int)) (b := (c : Int)) rfl rfl (by omega) (by omega)
    obtain ⟨e2, l2⟩ := and64 (a := 4294967295 - (b : Int)) (b := (d : Int)) (x := 4294967295 - b) (by omega) rfl (by omega) (by omega)
    exact (or64 e1 e2 l1 l2).1
  have hmaj : bits .or .u64 (bits .or .u64 (bits .and .u64 (b : Int) (c : Int)) (bits .and .u64 (b : Int) (d : Int))) (bits .and .u64 (c : Int) (d : Int)) = ((majF b c d : Nat) : Int) := by
    obtain ⟨e1, l1⟩ := and64 (a := (b : Int)) (b := (c : Int)) rfl rfl (by omega) (by omega)
    obtain ⟨e2, l2⟩ := and64 (a := (b : Int)) (b := (d : Int)) rfl rfl (by omega) (by omega)
    obtain ⟨e3, l3⟩ := and64 (a := (c : Int)) (b := (d : Int)) rfl rfl (by omega) (by omega)
    obtain ⟨e4, l4⟩ := or64 e1 e2 l1 l2
    exact (or64 e4 e3 l4 l3).1
  have HP := hide hpar
  have HC := hide hch
  have HM := hide hmaj
  clear hpar hch hmaj
  have hcs : (t / 20 = 0 ∧ (t : Int) < 20) ∨ (t / 20 = 1 ∧ ¬ (t : Int) < 20 ∧ (t : Int) < 40) ∨ (t / 20 = 2 ∧ ¬ (t : Int) < 20 ∧ ¬ (t : Int) < 40 ∧ (t : Int) < 60) ∨ (t / 20 = 3 ∧ ¬ (t : Int) < 20 ∧ ¬ (t : Int) < 40 ∧ ¬ (t : Int) < 60) := by omega
  rcases hcs with ⟨hq, h1⟩ | ⟨hq, h1, h2⟩ | ⟨hq, h1, h2, h3⟩ | ⟨hq, h1, h2, h3⟩
  all_goals (rw [hq]; clear hq)
  · go_enter Try.func64, Try.ntmps64
    go_wp2_with fail
    refine bodyPost_ret (v := .tuple #[.int .u64 (rndF 0 b c d : Nat), .int .u64 (rndK 0 : Nat)]) (by simp [results, Try.results64, go_sem]; simp [rndF, rndK, HC.out]) rfl ⟨rfl, rfl⟩
  · go_enter Try.func64, Try.ntmps64
    go_wp2_with fail
    refine bodyPost_ret (v := .tuple #[.int .u64 (rndF 1 b c d : Nat), .int .u64 (rndK 1 : Nat)]) (by simp [results, Try.results64, go_sem]; simp [rndF, rndK, HP.out]) rfl ⟨rfl, rfl⟩
  · go_enter Try.func64, Try.ntmps64
    go_wp2_with fail
    refine bodyPost_ret (v := .tuple #[.int .u64 (rndF 2 b c d : Nat), .int .u64 (rndK 2 : Nat)]) (by simp [results, Try.results64, go_sem]; simp [rndF, rndK, HM.out]) rfl ⟨rfl, rfl⟩
  · go_enter Try.func64, Try.ntmps64
    go_wp2_with fail
    refine bodyPost_ret (v := .tuple #[.int .u64 (rndF 3 b c d : Nat), .int .u64 (rndK 3 : Nat)]) (by simp [results, Try.results64, go_sem]; simp [rndF, rndK, HP.out]) rfl ⟨rfl, rfl⟩
end Go.Proofs.Ythfgblchlgodmaa
