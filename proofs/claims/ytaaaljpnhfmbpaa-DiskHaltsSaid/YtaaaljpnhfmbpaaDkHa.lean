/- What stays true of a halted disk from step to step. -/
import Derived.Test.YtaaaljpnhfmbpaaDkFit
import Derived.Test.YtaaaljpnhfmbpaaStepsLift
namespace Go.Proofs.Ytaaaljpnhfmbpaa
open Go.RowKit
set_option linter.unusedVariables false
structure DSOk (d : DS) (t : Nat) : Prop where
  fit : FitK d.l (3000 + t)
  st0 : 0 ≤ d.st
  st1 : d.st ≤ t
  en : d.en = true
  lf0 : 0 ≤ d.lf
  lf1 : d.lf ≤ 9223372036854775807
theorem DSOk.step {d : DS} {t : Nat} (h : DSOk d t) {name tn : ByteArray} {wh : Nat} {bs : List UInt8} {z : Int} (hs1 : name.size ≤ 140737488351232) (hs2 : tn.size ≤ 140737488351232) : DSOk (stepD d name (cmdOf wh tn bs z)) (t + 1) := by
  have hf := h.fit.step hs1 (fun t e => by rw [cmd_ren (wh := wh) (bs := bs) (z := z) e]; exact hs2)
  have h0 := h.st0
  have h1 := h.st1
  have h2 := h.lf0
  have h3 := h.lf1
  by_cases he : errP d name (cmdOf wh tn bs z) = 0
  · have hst : stepD d name (cmdOf wh tn bs z) = ⟨doP d.l name (cmdOf wh tn bs z), d.st + 1, d.en, if d.en then d.lf - 1 else d.lf⟩ := by unfold stepD; rw [if_pos he]
    have hne : d.lf ≠ 0 := by
      intro hz
      unfold errP at he
      rw [h.en, hz] at he
      split at he
      · exact absurd he (by assumption)
      · simp at he
    rw [hst] at hf ⊢
    exact ⟨hf, by show 0 ≤ d.st + 1; omega, by show d.st + 1 ≤ _; omega, h.en, by show 0 ≤ if d.en then d.lf - 1 else d.lf; rw [if_pos h.en]; omega, by show (if d.en then d.lf - 1 else d.lf) ≤ _; rw [if_pos h.en]; omega⟩
  · have hst : stepD d name (cmdOf wh tn bs z) = d := by unfold stepD; rw [if_neg he]
    rw [hst] at hf ⊢
    exact ⟨hf, h0, by omega, h.en, h2, h3⟩
theorem DSOk.left {d : DS} {t : Nat} (h : DSOk d t) : leftR d = d.lf := by unfold leftR; rw [if_pos h.en]
theorem svs5_at : ∀ (l : List SV) (i k : Nat) (s : SV) (u : Value), l[i]? = some s → k < 5 → (sv1 s)[k]? = some u → (svs5 l)[i * 5 + k]? = some u
  | [], i, k, s, u, h, _, _ => by simp at h
  | s0 :: l, 0, k, s, u, h, hk, hu => by
    have h' : s0 = s := by simpa using h
    subst h'
    unfold svs5
    rw [List.flatMap_cons, List.getElem?_append_left (by simp; omega), Nat.zero_mul, Nat.zero_add]
    exact hu
  | s0 :: l, i + 1, k, s, u, h, hk, hu => by
    have h' := svs5_at l i k s u (by simpa using h) hk hu
    unfold svs5 at h' ⊢
    rw [List.flatMap_cons, List.getElem?_append_right (by simp; omega)]
    have e : (i + 1) * 5 + k - (sv1 s0).length = i * 5 + k := by simp; omega
    rw [e]
    exact h'
theorem Reads.svAt {w : World} {B n : Nat} {A : Option Addr} {l : List SV} {k : Nat} (h : Reads w B 5 A n (svs5 l)) (hk : k < n) :
    ∃ b o s, A = some ⟨b, o, none⟩ ∧ b < B ∧ l[k]? = some s ∧ w.cell? ⟨b, o + k * 5, none⟩ = some (.int .i64 s.what) ∧ w.cell? ⟨b, o + k * 5 + 1, none⟩ = some (.string s.name) ∧ w.cell? ⟨b, o + k * 5 + 2, none⟩ = some (.string s.tn) ∧ w.cell? ⟨b, o + k * 5 + 3, none⟩ = some (.slice s.M s.m s.mc) ∧ w.cell? ⟨b, o + k * 5 + 4, none⟩ = some (.int .i64 s.z) := by
  obtain ⟨h1, h2⟩ := h
  rw [svs5_len] at h1
  obtain ⟨b, o, e, hb, hc⟩ := h2 (by omega)
  have hkl : k < l.length := by omega
  have hs : l[k]? = some l[k] := List.getElem?_eq_getElem hkl
  refine ⟨b, o, l[k], e, hb, hs, ?_, ?_, ?_, ?_, ?_⟩
  · have := hc _ _ (svs5_at l k 0 l[k] _ hs (by omega) rfl)
    simpa using this
  · have := hc _ _ (svs5_at l k 1 l[k] _ hs (by omega) rfl)
    simpa [Nat.add_assoc] using this
  · have := hc _ _ (svs5_at l k 2 l[k] _ hs (by omega) rfl)
    simpa [Nat.add_assoc] using this
  · have := hc _ _ (svs5_at l k 3 l[k] _ hs (by omega) rfl)
    simpa [Nat.add_assoc] using this
  · have := hc _ _ (svs5_at l k 4 l[k] _ hs (by omega) rfl)
    simpa [Nat.add_assoc] using this
end Go.Proofs.Ytaaaljpnhfmbpaa
