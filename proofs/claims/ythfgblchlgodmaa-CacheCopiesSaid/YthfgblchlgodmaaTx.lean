/- Texts in memory: a slice of texts that reads as a list, rows of the call's own. Conditions: those of each theorem. -/
import Derived.Test.YthfgblchlgodmaaRows
import Derived.Test.YthfgblchlgodmaaLib
import Derived.Deep.QuietTactic
import Derived.BigQuiet
import Derived.Deep.RegionWith
import Derived.Deep.RegionHeld3
import Derived.Deep.DeepMust
import Derived.Deep.DeepCutAuto
namespace Go.Proofs.Ythfgblchlgodmaa
open Go.RowKit
set_option linter.unusedVariables false

/-- texts as cells -/
def svs (l : List ByteArray) : List Value := l.map .string
theorem svs_length (l : List ByteArray) : (svs l).length = l.length := by simp [svs]
theorem svs_append (l m : List ByteArray) : svs (l ++ m) = svs l ++ svs m := by simp [svs]
theorem svs_one (l : List ByteArray) : ∀ u ∈ svs l, u.oneCell' = true := by
  intro u hu
  simp only [svs, List.mem_map] at hu
  obtain ⟨x, _, rfl⟩ := hu
  rfl
theorem svs_at (l : List ByteArray) (j : Nat) : (svs l)[j]? = l[j]?.map .string := by simp [svs]
theorem str_ok : ElemOk Try.prog 9 1 16 (.string ⟨#[]⟩) := elemOk (by kernel_rfl) rfl (by decide)
theorem Reads.slen {w : World} {B n : Nat} {A : Option Addr} {l : List ByteArray} (h : Reads w B 1 A n (svs l)) : l.length = n := by have := h.1; rw [svs_length] at this; omega
theorem Reads.text {w : World} {B n : Nat} {A : Option Addr} {l : List ByteArray} {k : Nat} (h : Reads w B 1 A n (svs l)) (hk : k < n) :
    ∃ b o s, A = some ⟨b, o, none⟩ ∧ b < B ∧ l[k]? = some s ∧ w.cell? ⟨b, o + k, none⟩ = some (.string s) := by
  obtain ⟨b, o, u, e, hb, hu, hc⟩ := h.at_ hk
  rw [svs_at] at hu
  cases hx : l[k]? with
  | none => rw [hx] at hu; cases hu
  | some s => rw [hx] at hu; simp at hu; exact ⟨b, o, s, e, hb, rfl, by rw [hc, ← hu]⟩
theorem own_below {w w' : World} {base : Nat} {e : TypeId} {size : Nat} {v : Value} {n : Nat} {xs : List Value} (h : w.ownsRow base e size v n xs) (hb : Below w.heap.size w w') : w'.ownsRow base e size v n xs := by
  obtain ⟨h1, h2⟩ := h
  refine ⟨h1, ?_⟩
  rcases h2 with h2 | ⟨g, cap, cur, a, b, c, d⟩
  · exact .inl h2
  · exact .inr ⟨g, cap, cur, a, b, (hb.block g (Array.getElem?_eq_some_iff.1 c).1).trans c, d⟩
theorem undrewQ {B : Nat} {w w' : World} (h : Below B w.drew w') : Below B w w' := ⟨h.os, h.tape, h.output, h.size, h.block⟩
/-- an owned row is a slice -/
theorem own_slice {w : World} {base : Nat} {e : TypeId} {v : Value} {n : Nat} {xs : List Value} (h : w.ownsRow base e 1 v n xs) : ∃ A cap, v = .slice A n cap ∧ n ≤ cap ∧ cap ≤ maxLen := by
  rcases h.2 with ⟨rfl, rfl⟩ | ⟨g, cap, cur, hv, hb, hg, h1, h2, _⟩
  · exact ⟨none, 0, rfl, Nat.le_refl _, by decide⟩
  · exact ⟨_, cap, hv, h1, h2⟩
theorem run_equalIn_sl_nil {P : Program} (w : World) (d : Nat) (t e : TypeId) (a : Option Addr) (n c : Nat) (h : P.underlying t = some (.slice e)) : (Op.equalIn (d + 1) t (.slice a n c) (.slice none 0 0)).run P w = .ok a.isNone w := by
  cases a <;> simp [Op.equalIn, run_underlying h]
theorem run_eql_sl_nil {P : Program} (w : World) (t e : TypeId) (a : Option Addr) (n c : Nat) (h : P.underlying t = some (.slice e)) : (binOp .eql t (.slice a n c) (.slice none 0 0)).run P w = .ok (.bool a.isNone) w := by
  simp only [binOp]
  simp [Op.equal, Op.maxDepth, run_equalIn_sl_nil w 9999 t e a n c h]
theorem own_set {w : World} {B : Nat} {e : TypeId} {gr n cap j : Nat} {xs : List Value} (h : w.ownsRow B e 1 (.slice (some ⟨gr, 0, none⟩) n cap) n xs) (hj : j < n) (u : Value) :
    (w.setCell ⟨gr, j, none⟩ u).ownsRow B e 1 (.slice (some ⟨gr, 0, none⟩) n cap) n (xs.set j u) := by
  obtain ⟨h1, h2⟩ := h
  refine ⟨by simpa using h1, ?_⟩
  rcases h2 with ⟨h2, _⟩ | ⟨g, cap', cur, hv, hb, hg, hc1, hc2, hc3, hc4⟩
  · cases h2
  · injection hv with hv1 hv2 hv3
    injection hv1 with hv1
    injection hv1 with hv1
    subst hv1 hv3
    have hk : Blk w gr e cur := hg
    refine .inr ⟨gr, cap, _, rfl, hb, hk.set_ j u, hc1, hc2, by simpa using hc3, ?_⟩
    rw [Array.toList_setIfInBounds, List.take_set, hc4]
theorem own_far {w : World} {B : Nat} {e : TypeId} {v : Value} {n : Nat} {xs : List Value} (h : w.ownsRow B e 1 v n xs) {p : Addr} (hp : v.ownBlock ≠ some p.block) (u : Value) : (w.setCell p u).ownsRow B e 1 v n xs := by
  obtain ⟨h1, h2⟩ := h
  refine ⟨h1, ?_⟩
  rcases h2 with h2 | ⟨g, cap, cur, rfl, hb, hg, hc⟩
  · exact .inl h2
  · have hk : Blk w g e cur := hg
    exact .inr ⟨g, cap, cur, rfl, hb, hk.far (p := p) (fun e => hp (by simp [Value.ownBlock, e])) u, hc⟩
theorem own_frozen {w : World} {B : Nat} {e : TypeId} {gr n cap : Nat} {xs : List Value} (h : w.ownsRow B e 1 (.slice (some ⟨gr, 0, none⟩) n cap) n xs) (j : Nat) : w.frozen? ⟨gr, j, none⟩ = false := by
  rcases h.2 with ⟨h2, _⟩ | ⟨g, cap', cur, hv, hb, hg, _⟩
  · cases h2
  · injection hv with hv1 hv2 hv3
    injection hv1 with hv1
    injection hv1 with hv1
    subst hv1
    have hk : Blk w gr e cur := hg
    exact hk.frozen j
theorem svs_set (l : List ByteArray) (j : Nat) (s : ByteArray) : (svs l).set j (.string s) = svs (l.set j s) := by simp [svs, List.map_set]
theorem take_snoc0 {l : List ByteArray} {t : Nat} {s : ByteArray} (hs : l[t]? = some s) : l.take (t + 1) = l.take t ++ [s] := by
  rw [List.take_add_one, hs]
  rfl
theorem Blk.texts {w : World} {k n : Nat} {l : List ByteArray} (h : Blk w k 9 (svs l).toArray) (hn : l.length = n) : Reads w w.heap.size 1 (some ⟨k, 0, none⟩) n (svs l) := by
  have := h.reads (n := w.heap.size) (k := 0) (m := n) h.lt (by simp [svs_length, hn])
  rw [List.drop_zero, List.take_of_length_le (by simp [svs_length, hn])] at this
  exact this
theorem own_base {w : World} {B B' : Nat} {e : TypeId} {v : Value} {n : Nat} {xs : List Value} (h : w.ownsRow B' e 1 v n xs) (hB : B ≤ B') : w.ownsRow B e 1 v n xs := by
  obtain ⟨h1, h2⟩ := h
  refine ⟨h1, ?_⟩
  rcases h2 with h2 | ⟨g, cap, cur, a, b, c⟩
  · exact .inl h2
  · exact .inr ⟨g, cap, cur, a, Nat.le_trans hB b, c⟩
end Go.Proofs.Ythfgblchlgodmaa
