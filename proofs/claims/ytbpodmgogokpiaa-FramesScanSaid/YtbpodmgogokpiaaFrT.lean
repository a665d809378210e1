/- The walks of Same (packages frames, taborref03) and what they call: whether two rows of lists of texts are the same. Conditions: those of each theorem. -/
import Derived.Test.YtbpodmgogokpiaaFrB
import Derived.Deep.QuietTactic
import Derived.BigQuiet
import Derived.Deep.RegionWith
import Derived.Deep.DeepMust
namespace Go.Proofs.Ytbpodmgogokpiaa
open Go.RowKit
set_option linter.unusedVariables false

set_option maxHeartbeats 2000000 in
theorem equal_any (A : Option Addr) (n c : Nat) (A' : Option Addr) (n' c' : Nat) (l l' : List ByteArray) (w : World) {B B' : Nat} (hr : Reads w B 1 A n (svs l)) (hr' : Reads w B' 1 A' n' (svs l')) (hn : n ≤ 200000) :
    Calls Try.prog 41 #[.slice A n c, .slice A' n' c'] w fun e w' => e = .returned (.bool (decide (l = l'))) ∧ ∃ m, w' = w.drewN m := by
  have hl := hide hr.slen
  have hl' := hide hr'.slen
  by_cases hnn : n = n'
  case neg =>
    have h1 : ((n : Int) != (n' : Int)) = true := by simp; omega
    have hd : decide (l = l') = false := by
      rw [decide_eq_false_iff_not]
      intro h
      exact hnn (by rw [← hl.out, ← hl'.out, h])
    rw [hd]
    go_enter Try.func41, Try.ntmps41
    go_wp2_with fail
    go_ret
    exact ⟨rfl, 0, rfl⟩
  case pos =>
    subst hnn
    go_enter Try.func41, Try.ntmps41
    go_wp2_with fail
    go_loopw [5, 13] (fun x i wr => ∃ t : Nat, t ≤ n ∧ i = .int .i64 t ∧ l.take t = l'.take t ∧ ∃ m, wr = w.drewN m) (fun _ i _ => n - (intOf i).toNat)
    case atStart => exact ⟨0, by omega, rfl, rfl, 0, rfl⟩
    case round =>
      obtain ⟨t, ht, rfl, htk, m, rfl⟩ := hrel
      have HT := hide htk
      clear htk
      by_cases htn : t < n
      · have htI : (t : Int) < (n : Int) := by omega
        have ht0 : (0 : Int) ≤ (t : Int) := by omega
        obtain ⟨b1, o1, s1, rfl, hb1, hs1, hc1⟩ := (hr.drewN m).text htn
        obtain ⟨b2, o2, s2, rfl, hb2, hs2, hc2⟩ := (hr'.drewN m).text htn
        have hw2 : IntKind.i64.wrap ((t : Int) + 1) = (t : Int) + 1 := IntWalk.i64_in _ (by omega)
        by_cases hss : s1 = s2
        · subst hss
          have HT2 : Hid (l.take (t + 1) = l'.take (t + 1)) := by
            show _ = _
            rw [take_snoc0 hs1, take_snoc0 hs2, HT.out]
          clear hs1 hs2
          obtain ⟨wd, hwd⟩ : ∃ wd, w.drewN m = wd := ⟨_, rfl⟩
          have HWD := hide hwd
          rw [hwd] at hc1 hc2 ⊢
          clear hwd
          go_wp2_with fail
          go_quiet (fail)
          go_wp2_with fail
          go_roundw
          case rel => exact ⟨t + 1, by omega, by simp, HT2.out, _, by rw [← HWD.out, World.drewN_drewN]⟩
          case measure => simp [intOf]; omega
        · have hne := bytes_ne hss
          have hd : decide (l = l') = false := by
            rw [decide_eq_false_iff_not]
            rintro rfl
            rw [hs1] at hs2
            exact hss (Option.some.inj hs2)
          have HD := hide hd
          clear hs1 hs2 hss hd
          obtain ⟨wd, hwd⟩ : ∃ wd, w.drewN m = wd := ⟨_, rfl⟩
          have HWD := hide hwd
          rw [hwd] at hc1 hc2 ⊢
          clear hwd
          go_wp2_with fail
          go_quiet (fail)
          go_wp2_with fail
          go_ret
          exact ⟨ret_bool HD.out.symm, _, by rw [← HWD.out, World.drewN_drewN]⟩
      · have htI : ¬ (t : Int) < (n : Int) := by omega
        obtain rfl : t = n := by omega
        have hd : decide (l = l') = true := by
          rw [decide_eq_true_iff]
          have := HT.out
          rwa [List.take_of_length_le (by rw [hl.out]; omega), List.take_of_length_le (by rw [hl'.out]; omega)] at this
        have HD := hide hd
        clear hd
        go_wp2_with fail
        go_ret
        exact ⟨ret_bool HD.out.symm, m, rfl⟩

theorem same1_any (A : Option Addr) (n c : Nat) (A' : Option Addr) (n' c' : Nat) (l l' : List ByteArray) (w : World) {B B' : Nat} (hr : Reads w B 1 A n (svs l)) (hr' : Reads w B' 1 A' n' (svs l')) (hn : n ≤ 200000) :
    Calls Try.prog 40 #[.slice A n c, .slice A' n' c'] w fun e w' => e = .returned (.bool (decide (l = l'))) ∧ ∃ m, w' = w.drewN m := by
  have H := hide (equal_any A n c A' n' c' l l' w hr hr' hn)
  go_enter Try.func40, Try.ntmps40
  go_wp2_with (first
    | (go_at_call 41; refine H.out.mono ?_; rintro e w1 ⟨rfl, m, rfl⟩)
    | fail)
  go_ret
  exact ⟨rfl, m, rfl⟩

/-- a row of lists of texts: its values, and what stands behind each -/
structure Rows2 (w : World) (B : Nat) (A : Option Addr) (n : Nat) (vs : List Value) (L : List (List ByteArray)) : Prop where
  row : Reads w B 1 A n vs
  len : vs.length = L.length
  each : ∀ (i : Nat) (l : List ByteArray), L[i]? = some l → ∃ A' n' c', vs[i]? = some (.slice A' n' c') ∧ Reads w B 1 A' n' (svs l) ∧ n' ≤ c' ∧ c' ≤ maxLen
theorem Rows2.drewN {w : World} {B : Nat} {A : Option Addr} {n : Nat} {vs : List Value} {L : List (List ByteArray)} (h : Rows2 w B A n vs L) (m : Nat) : Rows2 (w.drewN m) B A n vs L :=
  ⟨h.row.drewN m, h.len, fun i l hi => by
    obtain ⟨A', n', c', h1, h2, h3, h4⟩ := h.each i l hi
    exact ⟨A', n', c', h1, h2.drewN m, h3, h4⟩⟩
theorem Rows2.num {w : World} {B : Nat} {A : Option Addr} {n : Nat} {vs : List Value} {L : List (List ByteArray)} (h : Rows2 w B A n vs L) : L.length = n := by rw [← h.len]; have := h.row.1; omega
theorem Rows2.at2 {w : World} {B : Nat} {A : Option Addr} {n t : Nat} {vs : List Value} {L : List (List ByteArray)} (h : Rows2 w B A n vs L) (ht : t < n) :
    ∃ b o l A' n' c', A = some ⟨b, o, none⟩ ∧ b < B ∧ L[t]? = some l ∧ w.cell? ⟨b, o + t, none⟩ = some (.slice A' n' c') ∧ Reads w B 1 A' n' (svs l) ∧ n' ≤ c' ∧ c' ≤ maxLen := by
  have hn := h.num
  have hl : L[t]? = some L[t] := List.getElem?_eq_getElem (by omega)
  obtain ⟨A', n', c', h1, h2, h3, h4⟩ := h.each t _ hl
  obtain ⟨b, o, u, e, hb, hu, hc⟩ := h.row.at_ ht
  rw [h1] at hu
  injection hu with hu
  subst hu
  exact ⟨b, o, _, A', n', c', e, hb, hl, hc, h2, h3, h4⟩

set_option maxHeartbeats 2000000 in
theorem rsame_any (A : Option Addr) (n c : Nat) (A' : Option Addr) (n' c' : Nat) (vs vs' : List Value) (L L' : List (List ByteArray)) (w : World) {B B' : Nat} (hr : Rows2 w B A n vs L) (hr' : Rows2 w B' A' n' vs' L') (hn : n ≤ 200000) (hL : ∀ l ∈ L, l.length ≤ 200000) :
    Calls Try.prog 21 #[.slice A n c, .slice A' n' c'] w fun e w' => e = .returned (.bool (decide (L = L'))) ∧ ∃ m, w' = w.drewN m := by
  have hl := hide hr.num
  have hl' := hide hr'.num
  by_cases hnn : n = n'
  case neg =>
    have h1 : ((n : Int) != (n' : Int)) = true := by simp; omega
    have hd : decide (L = L') = false := by
      rw [decide_eq_false_iff_not]
      intro h
      exact hnn (by rw [← hl.out, ← hl'.out, h])
    rw [hd]
    go_enter Try.func21, Try.ntmps21
    go_wp2_with fail
    go_ret
    exact ⟨rfl, 0, rfl⟩
  case pos =>
    subst hnn
    go_enter Try.func21, Try.ntmps21
    go_wp2_with fail
    go_loopw [5] (fun i wr => ∃ t : Nat, t ≤ n ∧ i = .int .i64 t ∧ L.take t = L'.take t ∧ ∃ m, wr = w.drewN m) (fun i _ => n - (intOf i).toNat)
    case atStart => exact ⟨0, by omega, rfl, rfl, 0, rfl⟩
    case round =>
      obtain ⟨t, ht, rfl, htk, m, rfl⟩ := hrel
      have HT := hide htk
      clear htk
      by_cases htn : t < n
      · have htI : (t : Int) < (n : Int) := by omega
        have ht0 : (0 : Int) ≤ (t : Int) := by omega
        obtain ⟨b1, o1, l1, A1, n1, c1, rfl, hb1, hs1, hc1, hq1, _, _⟩ := (hr.drewN m).at2 htn
        obtain ⟨b2, o2, l2, A2, n2, c2, rfl, hb2, hs2, hc2, hq2, _, _⟩ := (hr'.drewN m).at2 htn
        have hw2 : IntKind.i64.wrap ((t : Int) + 1) = (t : Int) + 1 := IntWalk.i64_in _ (by omega)
        have hn1 : n1 ≤ 200000 := by
          have h1 := hL l1 (List.mem_of_getElem? hs1)
          rw [hq1.slen] at h1
          exact h1
        have HONE : Hid (∀ k, Calls Try.prog 16 #[.slice A1 n1 c1, .slice A2 n2 c2] ((w.drewN m).drewN k) fun e w' => e = .returned (.bool (decide (l1 = l2))) ∧ ∃ j, w' = ((w.drewN m).drewN k).drewN j) :=
          fun k => rone_any A1 n1 c1 A2 n2 c2 l1 l2 _ (hq1.drewN k) (hq2.drewN k) hn1
        by_cases hss : l1 = l2
        · subst hss
          have HT2 : Hid (L.take (t + 1) = L'.take (t + 1)) := by
            show _ = _
            rw [List.take_add_one, List.take_add_one, hs1, hs2, HT.out]
          have hd : decide (l1 = l1) = true := by simp
          rw [hd] at HONE
          clear hs1 hs2
          obtain ⟨wd, hwd⟩ : ∃ wd, w.drewN m = wd := ⟨_, rfl⟩
          have HWD := hide hwd
          rw [hwd] at hc1 hc2 HONE ⊢
          clear hwd
          go_wp2_with fail
          go_quiet ((go_at_call 16; exact Calls.quiet_of (HONE.out _)))
          go_wp2_with fail
          go_roundw
          case rel => exact ⟨t + 1, by omega, by simp, HT2.out, _, by rw [← HWD.out, World.drewN_drewN]⟩
          case measure => simp [intOf]; omega
        · have hd : decide (L = L') = false := by
            rw [decide_eq_false_iff_not]
            rintro rfl
            rw [hs1] at hs2
            exact hss (Option.some.inj hs2)
          have HD := hide hd
          have hd2 : decide (l1 = l2) = false := by simpa using hss
          rw [hd2] at HONE
          clear hs1 hs2 hss hd hd2
          obtain ⟨wd, hwd⟩ : ∃ wd, w.drewN m = wd := ⟨_, rfl⟩
          have HWD := hide hwd
          rw [hwd] at hc1 hc2 HONE ⊢
          clear hwd
          go_wp2_with fail
          go_quiet ((go_at_call 16; exact Calls.quiet_of (HONE.out _)))
          go_wp2_with fail
          go_ret
          exact ⟨ret_bool HD.out.symm, _, by rw [← HWD.out, World.drewN_drewN]⟩
      · have htI : ¬ (t : Int) < (n : Int) := by omega
        obtain rfl : t = n := by omega
        have hd : decide (L = L') = true := by
          rw [decide_eq_true_iff]
          have := HT.out
          rwa [List.take_of_length_le (by rw [hl.out]; omega), List.take_of_length_le (by rw [hl'.out]; omega)] at this
        have HD := hide hd
        clear hd
        go_wp2_with fail
        go_ret
        exact ⟨ret_bool HD.out.symm, m, rfl⟩
end Go.Proofs.Ytbpodmgogokpiaa
