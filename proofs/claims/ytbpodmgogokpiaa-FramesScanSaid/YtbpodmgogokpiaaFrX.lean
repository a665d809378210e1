/- Frames one behind the other are scanned as their lists, and what is scanned is framed in the same bytes (plain law). Conditions: those of each theorem. -/
import Derived.Test.YtbpodmgogokpiaaFrQ
import Derived.Test.YtbpodmgogokpiaaFrK
namespace Go.Proofs.Ytbpodmgogokpiaa
open Go.RowKit
set_option linter.unusedVariables false

theorem textsN_back : ∀ (n : Nat) (r : List UInt8) (l : List ByteArray) (x : List UInt8), textsN n r = some (l, x) →
    (l.map fun s => le4 s.size ++ s.data.toList).flatten ++ x = r
  | 0, r, l, x, h => by
    unfold textsN at h
    injection h with h
    injection h with h1 h2
    subst h1 h2
    rfl
  | k + 1, r, l, x, h => by
    unfold textsN at h
    split at h
    · cases h
    · rename_i h4
      split at h
      · cases h
      · rename_i hk
        split at h
        · cases h
        · rename_i l' x' hx
          injection h with h
          injection h with h1 h2
          subst h1 h2
          have ih := textsN_back k _ _ _ hx
          have hs : (⟨((r.drop 4).take (of4 r)).toArray⟩ : ByteArray).size = of4 r := by
            show ((r.drop 4).take (of4 r)).toArray.size = of4 r
            rw [List.size_toArray, List.length_take, List.length_drop]
            omega
          rw [List.map_cons, List.flatten_cons, hs, le4_of4 (by omega)]
          show r.take 4 ++ ((r.drop 4).take (of4 r)) ++ _ ++ x' = r
          rw [List.append_assoc, List.append_assoc, ih, List.take_append_drop, List.take_append_drop]
theorem textsN_num : ∀ (k : Nat) (r x : List UInt8) (l : List ByteArray), textsN k r = some (l, x) → l.length = k
  | 0, r, x, l, h => by
    unfold textsN at h
    injection h with h
    injection h with h1 h2
    rw [← h1]; rfl
  | k + 1, r, x, l, h => by
    unfold textsN at h
    split at h
    · cases h
    · split at h
      · cases h
      · split at h
        · cases h
        · rename_i l' x' hx
          injection h with h
          injection h with h1 h2
          rw [← h1, List.length_cons, textsN_num k _ _ _ hx]
theorem textsB_back {b : List UInt8} {l : List ByteArray} (h : textsB b = some l) : bodyF l = b := by
  unfold textsB at h
  split at h
  · cases h
  · rename_i h4
    split at h
    · cases h
    · split at h
      · cases h
      · rename_i l' x' hx
        split at h
        · rename_i hx0
          injection h with h
          subst h hx0
          have hn := textsN_num _ _ _ _ hx
          have hb := textsN_back _ _ _ _ hx
          unfold bodyF bodyT
          rw [List.take_length, hn, le4_of4 (by omega)]
          rw [List.append_nil] at hb
          rw [hb, List.take_append_drop]
        · cases h
theorem readF_back {b : List UInt8} {l : List ByteArray} {k : Nat} (h : readF b = .inr (l, k)) : frameF l = b.take k := by
  unfold readF at h
  split at h
  · cases h
  · rename_i h8
    split at h
    · cases h
    · split at h
      · cases h
      · rename_i hn
        split at h
        · cases h
        · rename_i hs
          split at h
          · cases h
          · rename_i l' hx
            injection h with h
            injection h with h1 h2
            subst h1 h2
            have hb := textsB_back hx
            have hlen : ((b.drop 8).take (of4 b)).length = of4 b := by rw [List.length_take, List.length_drop]; omega
            have hs' := Decidable.of_not_not hs
            unfold frameF
            rw [hb, hlen, hs', le4_of4 (by omega), le4_of4 (by rw [List.length_drop]; omega)]
            rw [show b.take 4 ++ (b.drop 4).take 4 = b.take 8 from by rw [show 8 = 4 + 4 from rfl, List.take_add]]
            rw [List.take_add]
theorem scan_back : ∀ (n : Nat) (b : List UInt8), b.length ≤ n → ((scanF b).1.map frameF).flatten = b.take (scanF b).2 ∧ (scanF b).2 ≤ b.length
  | n, b, hn => by
    cases hx : readF b with
    | inl e => rw [scanF_no hx]; exact ⟨by simp, by simp⟩
    | inr p =>
      obtain ⟨l, k⟩ := p
      have hk := readF_le hx
      match n, hn with
      | 0, hn => omega
      | n + 1, hn =>
        have ih := scan_back n (b.drop k) (by rw [List.length_drop]; omega)
        rw [List.length_drop] at ih
        rw [scanF_yes hx]
        refine ⟨?_, by simp only; omega⟩
        simp only [List.map_cons, List.flatten_cons]
        rw [readF_back hx, ih.1, List.take_add]
theorem scanF_frames : ∀ (rows : List (List ByteArray)) (tail : List UInt8), (∀ l ∈ rows, l.length ≤ 65536 ∧ (bodyF l).length ≤ 1048576 ∧ ∀ s ∈ l, s.size < 4294967296) → scanF tail = ([], 0) →
    scanF ((rows.map frameF).flatten ++ tail) = (rows, ((rows.map frameF).flatten).length)
  | [], tail, _, ht => by simpa using ht
  | l :: rows, tail, h, ht => by
    obtain ⟨h1, h2, h3⟩ := h l (by simp)
    have ih := scanF_frames rows tail (fun x hx => h x (by simp [hx])) ht
    rw [List.map_cons, List.flatten_cons, List.append_assoc]
    rw [scanF_yes (readF_frame l _ h1 h2 h3), List.drop_left' rfl, ih, List.length_append]
end Go.Proofs.Ytbpodmgogokpiaa
