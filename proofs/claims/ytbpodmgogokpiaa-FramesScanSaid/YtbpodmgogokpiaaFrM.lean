/- The walks of the laws' helpers num, few and works (package taborlaw03). Conditions: those of each theorem. -/
import Derived.Test.YtbpodmgogokpiaaFrL
import Derived.Test.YtbpodmgogokpiaaFrB
namespace Go.Proofs.Ytbpodmgogokpiaa
open Go.RowKit
set_option linter.unusedVariables false

theorem num_any (k : Int) (w : World) : Calls Try.prog 14 #[.int .i64 k] w fun e w' => e = .returned (.int .i64 k) ∧ w = w' := by
  go_enter Try.func14, Try.ntmps14
  go_wp2_with fail
  go_ret
  exact ⟨rfl, rfl⟩

def accT (l : List ByteArray) (t : Nat) : Nat := ((l.take t).map fun s => 4 + s.size).sum
theorem accT_succ {l : List ByteArray} {t : Nat} {s : ByteArray} (hs : l[t]? = some s) : accT l (t + 1) = accT l t + 4 + s.size := by
  unfold accT
  rw [take_snoc0 hs, List.map_append, List.sum_append]
  simp
  omega
theorem accT_all : ∀ (l : List ByteArray), l.length * 4 ≤ (l.map fun s => 4 + s.size).sum ∧ ∀ s ∈ l, s.size ≤ (l.map fun s => 4 + s.size).sum
  | [] => ⟨by simp, fun s hs => by cases hs⟩
  | x :: r => by
    obtain ⟨h1, h2⟩ := accT_all r
    refine ⟨by simp; omega, fun s hs => ?_⟩
    rcases List.mem_cons.1 hs with rfl | hs
    · simp; omega
    · have := h2 s hs
      simp
      omega
theorem few_facts {l : List ByteArray} (h : accT l l.length ≤ 3000) : l.length ≤ 750 ∧ ∀ s ∈ l, s.size ≤ 3000 := by
  unfold accT at h
  rw [List.take_length] at h
  obtain ⟨h1, h2⟩ := accT_all l
  exact ⟨by omega, fun s hs => by have := h2 s hs; omega⟩

theorem accT_le (l : List ByteArray) (t : Nat) : accT l t ≤ accT l l.length := by
  have h : (l.map fun s => 4 + s.size).sum = accT l t + ((l.drop t).map fun s => 4 + s.size).sum := by
    unfold accT
    rw [← List.sum_append, ← List.map_append, List.take_append_drop]
  unfold accT at *
  rw [List.take_length]
  omega
def FewPost (l : List ByteArray) (e : Ending) : Prop := e = .returned (.bool (decide (accT l l.length ≤ 3000)))
theorem ret_boolX {a b : Bool} (h : a = b) : Ending.returned (.bool a) = .returned (.bool b) := by rw [h]
set_option maxHeartbeats 1000000 in
theorem few_any (A : Option Addr) (n c : Nat) (l : List ByteArray) (w : World) {B : Nat} (hr : Reads w B 1 A n (svs l)) (hn : n ≤ maxLen) (hs : ∀ s ∈ l, s.size ≤ 140737488351232) :
    Calls Try.prog 10 #[.slice A n c] w fun e w' => FewPost l e ∧ w = w' := by
  have hn' : n ≤ 9223372036854775807 := hn
  have hl := hide hr.slen
  go_enter Try.func10, Try.ntmps10
  go_wp2_with fail
  go_loopw [3, 4] (fun a i wr => ∃ t : Nat, t ≤ n ∧ a = .int .i64 (accT l t) ∧ i = .int .i64 t ∧ accT l t ≤ 200000000000000 ∧ wr = w) (fun _ i _ => n - (intOf i).toNat)
  case atStart => exact ⟨0, by omega, by simp [accT], rfl, by simp [accT], rfl⟩
  case round =>
    obtain ⟨t, ht, rfl, rfl, hacc, rfl⟩ := hrel
    by_cases htn : t < n
    · have htI : (t : Int) < (n : Int) := by omega
      by_cases h3 : accT l t ≤ 3000
      · have h3I : (accT l t : Int) ≤ 3000 := by omega
        have ht0 : (0 : Int) ≤ (t : Int) := by omega
        obtain ⟨b, o, s, rfl, hb, hls, hc⟩ := hr.text htn
        have hss := hs s (List.mem_of_getElem? hls)
        have hnx := hide (accT_succ hls)
        have hw1 : IntKind.i64.wrap ((accT l t : Int) + 4) = (accT l t : Int) + 4 := IntWalk.i64_in _ (by omega)
        have hw3 : IntKind.i64.wrap ((accT l t : Int) + 4 + (s.size : Int)) = (accT l t : Int) + 4 + (s.size : Int) := IntWalk.i64_in _ (by omega)
        have hw2 : IntKind.i64.wrap ((t : Int) + 1) = (t : Int) + 1 := IntWalk.i64_in _ (by omega)
        generalize accT l t = k at *
        go_wp2_with fail
        go_roundw
        case rel => exact ⟨t + 1, by omega, by rw [hnx.out]; simp, by simp, by rw [hnx.out]; omega, by first | rfl | trivial⟩
        case measure => simp [intOf]; omega
      · have h3I : ¬ (accT l t : Int) ≤ 3000 := by omega
        have hx : decide (accT l l.length ≤ 3000) = false := by have := accT_le l t; simp; omega
        have HX := hide hx
        clear hx
        generalize accT l t = k at *
        go_wp2_with fail
        go_ret
        exact ⟨by unfold FewPost; rw [HX.out]; rfl, rfl⟩
    · have htI : ¬ (t : Int) < (n : Int) := by omega
      obtain rfl : t = n := by omega
      have hx : accT l l.length = accT l t := by rw [hl.out]
      have HX := hide hx
      clear hx
      generalize accT l t = k at *
      go_wp2_with fail
      go_ret
      refine ⟨?_, rfl⟩
      unfold FewPost
      rw [HX.out]
      exact ret_boolX (by simp; omega)


def sA : ByteArray := ⟨#[97]⟩
def sB : ByteArray := ⟨#[98]⟩
def sC : ByteArray := ⟨#[99]⟩
theorem known_a : (frameF [sA]).length = 17 := by rw [frame_length]; decide +kernel
theorem known_b : (frameF [sB, sC]).length = 22 := by rw [frame_length]; decide +kernel
theorem known_scan1 : (scanF (frameF [sA] ++ frameF [sB, sC] ++ [9, 0, 0])).1 = [[sA], [sB, sC]] := by decide +kernel
theorem known_scan2 : (scanF (frameF [sA] ++ frameF [sB, sC] ++ [9, 0, 0])).2 = 39 := by decide +kernel
theorem known_read : readF (frameF [sA]) = .inr ([sA], 17) := by decide +kernel
theorem known_sizeA : sizeF [sA] = 17 := by decide +kernel
theorem known_sizeB : ¬ sizeF [sB, sC] = 0 := by decide +kernel
theorem parts_two {ps : List SPart} {x y : List ByteArray} (h : ps.map (·.l) = [x, y]) : ∃ p q, ps = [p, q] ∧ p.l = x ∧ q.l = y := by
  match ps, h with
  | [p, q], h =>
    simp only [List.map_cons, List.map_nil, List.cons.injEq, and_true] at h
    exact ⟨p, q, rfl, h.1, h.2⟩
theorem small_two (a b : ByteArray) (ha : a.size ≤ 140737488351232) (hb : b.size ≤ 140737488351232) : ∀ s ∈ [a, b], s.size ≤ 140737488351232 := by
  intro s hs
  simp only [List.mem_cons, List.not_mem_nil, or_false] at hs
  rcases hs with rfl | rfl <;> assumption
theorem small_one (a : ByteArray) (ha : a.size ≤ 140737488351232) : ∀ s ∈ [a], s.size ≤ 140737488351232 := by
  intro s hs
  rw [List.mem_singleton.1 hs]
  exact ha
end Go.Proofs.Ytbpodmgogokpiaa
