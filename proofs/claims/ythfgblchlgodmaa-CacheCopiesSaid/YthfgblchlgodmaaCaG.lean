/- The walks of works and of the law CacheNames (package taborlaw21). Conditions: the text's size for the latter. -/
import Derived.Test.YthfgblchlgodmaaCaF
namespace Go.Proofs.Ythfgblchlgodmaa
open Go.RowKit
set_option linter.unusedVariables false

theorem num_any (k : Int) (w : World) : Calls Try.prog 25 #[.int .i64 k] w fun e w' => e = .returned (.int .i64 k) ∧ w = w' := by
  go_enter Try.func25, Try.ntmps25
  go_wp2_with fail
  go_ret
  exact ⟨rfl, rfl⟩
def abcText : List UInt8 := [97, 57, 57, 57, 51, 101, 51, 54, 52, 55, 48, 54, 56, 49, 54, 97, 98, 97, 51, 101, 50, 53, 55, 49, 55, 56, 53, 48, 99, 50, 54, 99, 57, 99, 100, 48, 100, 56, 57, 100]
theorem known_abc : textOf (digSt [97, 98, 99]) = abcText := by decide +kernel
theorem known_dig : digS (⟨#[97, 98, 99]⟩ : ByteArray) = (⟨#[97, 57, 57, 57, 51, 101, 51, 54, 52, 55, 48, 54, 56, 49, 54, 97, 98, 97, 51, 101, 50, 53, 55, 49, 55, 56, 53, 48, 99, 50, 54, 99, 57, 99, 100, 48, 100, 56, 57, 100]⟩ : ByteArray) := by
  unfold digS
  show (⟨(textOf (digSt [97, 98, 99])).toArray⟩ : ByteArray) = _
  rw [known_abc]
  rfl
theorem putR_zero (d : ByteArray) : putR 0 d = .tuple #[.string d, .int .i64 0] := rfl
theorem known_putE : putE 0 [] (⟨#[97, 57, 57, 57, 51, 101, 51, 54, 52, 55, 48, 54, 56, 49, 54, 97, 98, 97, 51, 101, 50, 53, 55, 49, 55, 56, 53, 48, 99, 50, 54, 99, 57, 99, 100, 48, 100, 56, 57, 100]⟩ : ByteArray) (⟨#[97, 98, 99]⟩ : ByteArray) = 0 := by kernel_rfl
theorem known_putC : putC 0 [] (⟨#[97, 57, 57, 57, 51, 101, 51, 54, 52, 55, 48, 54, 56, 49, 54, 97, 98, 97, 51, 101, 50, 53, 55, 49, 55, 56, 53, 48, 99, 50, 54, 99, 57, 99, 100, 48, 100, 56, 57, 100]⟩ : ByteArray) (⟨#[97, 98, 99]⟩ : ByteArray) = [((⟨#[97, 57, 57, 57, 51, 101, 51, 54, 52, 55, 48, 54, 56, 49, 54, 97, 98, 97, 51, 101, 50, 53, 55, 49, 55, 56, 53, 48, 99, 50, 54, 99, 57, 99, 100, 48, 100, 56, 57, 100]⟩ : ByteArray), .string (⟨#[97, 98, 99]⟩ : ByteArray))] := by kernel_rfl
theorem known_get : (lookS [((⟨#[97, 57, 57, 57, 51, 101, 51, 54, 52, 55, 48, 54, 56, 49, 54, 97, 98, 97, 51, 101, 50, 53, 55, 49, 55, 56, 53, 48, 99, 50, 54, 99, 57, 99, 100, 48, 100, 56, 57, 100]⟩ : ByteArray), .string (⟨#[97, 98, 99]⟩ : ByteArray))] (⟨#[97, 57, 57, 57, 51, 101, 51, 54, 52, 55, 48, 54, 56, 49, 54, 97, 98, 97, 51, 101, 50, 53, 55, 49, 55, 56, 53, 48, 99, 50, 54, 99, 57, 99, 100, 48, 100, 56, 57, 100]⟩ : ByteArray)).getD (.string ⟨#[]⟩) = .string (⟨#[97, 98, 99]⟩ : ByteArray) ∧ (lookS [((⟨#[97, 57, 57, 57, 51, 101, 51, 54, 52, 55, 48, 54, 56, 49, 54, 97, 98, 97, 51, 101, 50, 53, 55, 49, 55, 56, 53, 48, 99, 50, 54, 99, 57, 99, 100, 48, 100, 56, 57, 100]⟩ : ByteArray), .string (⟨#[97, 98, 99]⟩ : ByteArray))] (⟨#[97, 57, 57, 57, 51, 101, 51, 54, 52, 55, 48, 54, 56, 49, 54, 97, 98, 97, 51, 101, 50, 53, 55, 49, 55, 56, 53, 48, 99, 50, 54, 99, 57, 99, 100, 48, 100, 56, 57, 100]⟩ : ByteArray)).isSome = true := by
  have h : lookS [((⟨#[97, 57, 57, 57, 51, 101, 51, 54, 52, 55, 48, 54, 56, 49, 54, 97, 98, 97, 51, 101, 50, 53, 55, 49, 55, 56, 53, 48, 99, 50, 54, 99, 57, 99, 100, 48, 100, 56, 57, 100]⟩ : ByteArray), .string (⟨#[97, 98, 99]⟩ : ByteArray))] (⟨#[97, 57, 57, 57, 51, 101, 51, 54, 52, 55, 48, 54, 56, 49, 54, 97, 98, 97, 51, 101, 50, 53, 55, 49, 55, 56, 53, 48, 99, 50, 54, 99, 57, 99, 100, 48, 100, 56, 57, 100]⟩ : ByteArray) = some (.string (⟨#[97, 98, 99]⟩ : ByteArray)) := by
    unfold lookS
    rw [List.find?_cons_of_pos (by simp)]
    rfl
  rw [h]
  exact ⟨rfl, rfl⟩
theorem known_nf : nameS (⟨#[102]⟩ : ByteArray) = true := by decide +kernel
theorem known_ng : nameS (⟨#[103]⟩ : ByteArray) = true := by decide +kernel
theorem known_na : nameS (⟨#[97, 95, 49]⟩ : ByteArray) = true := by decide +kernel
theorem known_loadE : loadE 1 [] (⟨#[102]⟩ : ByteArray) (⟨#[120]⟩ : ByteArray) = 0 := by
  rw [(load_yes known_nf).2]; kernel_rfl
theorem known_loadC : loadC 1 [] (⟨#[102]⟩ : ByteArray) (⟨#[120]⟩ : ByteArray) = [((⟨#[102]⟩ : ByteArray), .string (⟨#[120]⟩ : ByteArray))] := by
  rw [(load_yes known_nf).1]; kernel_rfl
theorem known_named : (lookS [((⟨#[102]⟩ : ByteArray), .string (⟨#[120]⟩ : ByteArray))] (⟨#[102]⟩ : ByteArray)).getD (.string ⟨#[]⟩) = .string (⟨#[120]⟩ : ByteArray) ∧ (lookS [((⟨#[102]⟩ : ByteArray), .string (⟨#[120]⟩ : ByteArray))] (⟨#[102]⟩ : ByteArray)).isSome = true := by
  have h : lookS [((⟨#[102]⟩ : ByteArray), .string (⟨#[120]⟩ : ByteArray))] (⟨#[102]⟩ : ByteArray) = some (.string (⟨#[120]⟩ : ByteArray)) := by
    unfold lookS
    rw [List.find?_cons_of_pos (by simp)]
    rfl
  rw [h]
  exact ⟨rfl, rfl⟩
theorem known_lg : lookS [((⟨#[102]⟩ : ByteArray), .string (⟨#[120]⟩ : ByteArray))] (⟨#[103]⟩ : ByteArray) = none := by
  unfold lookS
  rw [List.find?_cons_of_neg (by simp)]
  rfl
theorem known_unload : unloadC [((⟨#[102]⟩ : ByteArray), .string (⟨#[120]⟩ : ByteArray))] (⟨#[103]⟩ : ByteArray) = [((⟨#[102]⟩ : ByteArray), .string (⟨#[120]⟩ : ByteArray))] ∧ unloadE [((⟨#[102]⟩ : ByteArray), .string (⟨#[120]⟩ : ByteArray))] (⟨#[103]⟩ : ByteArray) = 5 := unload_none known_ng known_lg

set_option maxHeartbeats 4000000 in
set_option maxRecDepth 100000 in
theorem works_any (w : World) : Calls Try.prog 9 #[] w fun e w' => e = .returned (.bool true) ∧ Below w.heap.size w w' := by
  have K1 := hide known_dig
  have K2 := hide known_putE
  have K3 := hide known_putC
  have K4 := hide known_get
  have K5 := hide known_loadE
  have K6 := hide known_loadC
  have K7 := hide known_named
  have K8 := hide known_unload
  have K9 := hide known_na
  go_enter Try.func9, Try.ntmps9
  go_wp2_with (first
    | (go_at_call 11; go_must (refine (cnew_any w).mono ?_; rintro e w1 ⟨g, r1, r2, rfl, hc1, hg, hr1, hr2, hb1⟩))
    | (go_at_call 23
       go_must (
       refine (cputs_any (B := w.heap.size) (⟨#[97, 98, 99]⟩ : ByteArray) w1 hc1 (by decide) (by decide) (by decide) hr1 hb1.size).mono ?_
       rw [K1.out]
       simp only [List.length_nil, Nat.add_zero]
       rw [K2.out, K3.out, putR_zero]
       rintro e w2 ⟨rfl, hc2, hb2⟩
       have hbw2 := hb1.trans hb2
       have hG := hide (cget_any (⟨#[97, 57, 57, 57, 51, 101, 51, 54, 52, 55, 48, 54, 56, 49, 54, 97, 98, 97, 51, 101, 50, 53, 55, 49, 55, 56, 53, 48, 99, 50, 54, 99, 57, 99, 100, 48, 100, 56, 57, 100]⟩ : ByteArray) w2 hc2)
       rw [K4.out.1, K4.out.2] at hG))
    | (go_at_call 13; refine hG.out.mono ?_; rintro e w2' ⟨rfl, rfl⟩)
    | (go_at_call 24
       go_must (
       refine (cload_any (B := w.heap.size) (⟨#[102]⟩ : ByteArray) (⟨#[120]⟩ : ByteArray) w2 hc2 (by decide) (by decide) hr2 hbw2.size).mono ?_
       simp only [List.length_nil, List.length_cons, Nat.add_zero, Nat.zero_add]
       rw [K5.out, K6.out]
       rintro e w3 ⟨rfl, hc3, hb3⟩
       have hbw3 := hbw2.trans hb3
       have hN := hide (cnamed_any (⟨#[102]⟩ : ByteArray) w3 hc3)
       rw [K7.out.1, K7.out.2] at hN))
    | (go_at_call 15; refine hN.out.mono ?_; rintro e w3' ⟨rfl, rfl⟩)
    | (go_at_call 26
       go_must (
       refine (cunload_any (B := w.heap.size) (⟨#[103]⟩ : ByteArray) w3 hc3 hr2 hbw3.size).mono ?_
       rw [K8.out.1, K8.out.2]
       rintro e w4 ⟨rfl, hc4, hb4⟩
       have hbw4 := hbw3.trans hb4))
    | (go_at_call 25; refine (num_any 0 _).mono ?_; rintro e w2' ⟨rfl, rfl⟩)
    | (go_at_call 25; refine (num_any 5 _).mono ?_; rintro e w2' ⟨rfl, rfl⟩)
    | (go_at_call 28; refine (clen_any w4 hc4 (by decide) (by decide)).mono ?_
       rintro e w5 ⟨rfl, m5, hw5⟩
       have hbw5 : Below w.heap.size w w5 := by rw [hw5]; exact below_drewN hbw4 _
       clear hw5)
    | (go_at_call 7; refine (name_any (⟨#[97, 95, 49]⟩ : ByteArray) w5).mono ?_; rintro e w6 ⟨rfl, hb6⟩; rw [K9.out])
    | fail)
  go_ret
  exact ⟨rfl, hbw5.trans (hb6.mono hbw5.size)⟩

set_option maxHeartbeats 1000000 in
theorem cacheNames_any (s : ByteArray) (w : World) (hs : s.size ≤ 9223372036854775807) : Calls Try.prog 3 #[.string s] w fun e w' => e = .returned (.bool true) ∧ Below w.heap.size w w' := by
  have H1 := fun w => name_any s w
  have H2 := fun w => rname_any s w hs
  have hb : ((nameS s) == (nameS s)) = true := by simp
  generalize nameS s = x at *
  go_enter Try.func3, Try.ntmps3
  go_wp2_with (first
    | (go_at_call 7; refine (H1 _).mono ?_; rintro e w1 ⟨rfl, hb1⟩)
    | (go_at_call 8; refine (H2 _).mono ?_; rintro e w2 ⟨rfl, rfl⟩)
    | (go_at_call 9; refine (works_any _).mono ?_; rintro e w3 ⟨rfl, hb3⟩)
    | fail)
  go_ret
  exact ⟨rfl, hb1.trans (hb3.mono hb1.size)⟩
end Go.Proofs.Ythfgblchlgodmaa
