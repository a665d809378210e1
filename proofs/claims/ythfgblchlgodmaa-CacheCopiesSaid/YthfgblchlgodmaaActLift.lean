/- What a law is told of a slice of calls, or one, that comes in, as my walks read it: its cells, and that no text takes more than the form's reach. -/
import Derived.Test.YthfgblchlgodmaaTxLift
import Derived.Test.YthfgblchlgodmaaCaT
import Derived.ChangeSlices
namespace Go.Proofs.Ythfgblchlgodmaa
open Go.RowKit Go.ChangeShapes Go.Deep
set_option linter.unusedVariables false
theorem at_placeF {W : World} {ad : Addr} {v : Value} (h : W.cell? ad = some v) : ∃ b o, ad = ⟨b, o, none⟩ ∧ b < W.heap.size := by
  obtain ⟨b, o, sp⟩ := ad
  have hsp : sp = none := by
    cases sp with
    | none => rfl
    | some z =>
      unfold World.cell? at h
      split at h
      · simp at h
      · cases h
  subst hsp
  obtain ⟨ob, hob, _⟩ := cells_of_cell h
  exact ⟨b, o, rfl, (Array.getElem?_eq_some_iff.1 hob).1⟩
theorem avs_inv : ∀ (l : List CAct) (j : Nat) (u : Value), (avs l)[j]? = some u → ∃ i x, l[i]? = some x ∧ ((j = i * 3 ∧ u = .int .i64 x.what) ∨ (j = i * 3 + 1 ∧ u = .string x.name) ∨ (j = i * 3 + 2 ∧ u = .string x.script))
  | [], j, u, h => by simp [avs] at h
  | f :: l, 0, u, h => ⟨0, f, rfl, .inl ⟨rfl, by simpa [avs] using h.symm⟩⟩
  | f :: l, 1, u, h => ⟨0, f, rfl, .inr (.inl ⟨rfl, by simpa [avs] using h.symm⟩)⟩
  | f :: l, 2, u, h => ⟨0, f, rfl, .inr (.inr ⟨rfl, by simpa [avs] using h.symm⟩)⟩
  | f :: l, j + 3, u, h => by
    have h' : (avs l)[j]? = some u := by
      unfold avs at h ⊢
      rw [List.flatMap_cons, List.getElem?_append_right (by simp)] at h
      simpa using h
    obtain ⟨i, x, hi, hx⟩ := avs_inv l j u h'
    refine ⟨i + 1, x, by simpa using hi, ?_⟩
    rcases hx with ⟨e, h1⟩ | ⟨e, h1⟩ | ⟨e, h1⟩
    · exact .inl ⟨by omega, h1⟩
    · exact .inr (.inl ⟨by omega, h1⟩)
    · exact .inr (.inr ⟨by omega, h1⟩)
theorem cells?_three {w : World} {base : Nat} {a : Addr} {cs : List Value} (h : w.cells? base a 3 = some cs) : ∃ x y z, cs = [x, y, z] ∧ w.cell? a = some x ∧ w.cell? (a.add 1) = some y ∧ w.cell? (a.add 2) = some z := by
  unfold World.cells? at h
  split at h
  · simp only [List.range, List.range.loop, List.mapM_cons, List.mapM_nil, Option.bind_eq_bind, Option.pure_def, Option.bind_eq_some_iff] at h
    obtain ⟨x, hx, r1, ⟨y, hy, r2, ⟨z, hz, r3, h3, h4⟩, h5⟩, h6⟩ := h
    cases h3
    cases h4
    cases h5
    cases h6
    exact ⟨x, y, z, rfl, hx, hy, hz⟩
  · cases h
theorem list3F {α : Type} {l : List α} (h : l.length = 3) : ∃ a b c, l = [a, b, c] := by
  match l, h with
  | [a, b, c], _ => exact ⟨a, b, c, rfl⟩
theorem open_act {H : Type} {enc : TypeId × Value → H} {W : World} {fuel : Nat} {c0 c1 c2 : Value} {y : DataW H × List MemPlace} (hf : DataW.trod enc Try.prog W 0 (fun _ => true) true fuel 39 [c0, c1, c2] = some y) :
    ∃ x : CAct, c0 = .int .i64 x.what ∧ c1 = .string x.name ∧ c2 = .string x.script ∧ y.1 = .agg [.lit (.int .i64 x.what), .lit (.string x.name.data.toList), .lit (.string x.script.data.toList)] := by
  obtain ⟨xs, n1, _, hy, hl1, hxl, hff⟩ := DataW.trod_struct Try.underlying39 hf
  obtain ⟨y0, y1, y2, rfl⟩ := list3F hxl
  have s1 : Try.prog.cellsOf 9 = 1 := by kernel_rfl
  have s2 : Try.prog.cellsOf 3 = 1 := by kernel_rfl
  have g0 : DataW.trod enc Try.prog W 0 (fun _ => true) true n1 3 ((List.drop 0 [c0, c1, c2]).take (Try.prog.cellsOf 3)) = some y0 := hff 0 _ rfl
  have g1 : DataW.trod enc Try.prog W 0 (fun _ => true) true n1 9 ((List.drop 1 [c0, c1, c2]).take (Try.prog.cellsOf 9)) = some y1 := hff 1 _ rfl
  have g2 : DataW.trod enc Try.prog W 0 (fun _ => true) true n1 9 ((List.drop 2 [c0, c1, c2]).take (Try.prog.cellsOf 9)) = some y2 := hff 2 _ rfl
  rw [s1] at g1 g2
  rw [s2] at g0
  obtain ⟨z, e0, x0, _⟩ := DataW.trod_int (cs := [c0]) Try.underlying3 g0
  obtain ⟨a, e1, x1, _⟩ := DataW.trod_string (cs := [c1]) Try.underlying9 g1
  obtain ⟨b, e2, x2, _⟩ := DataW.trod_string (cs := [c2]) Try.underlying9 g2
  injection e0 with e0
  injection e1 with e1
  injection e2 with e2
  refine ⟨⟨z, a, b⟩, e0, e1, e2, ?_⟩
  rw [hy, x0, x1, x2]
  rfl
theorem open_acts {H : Type} {enc : TypeId × Value → H} {W : World} {ts : List TypeId} {ds : List (DataW H)} {j : Nat} {d : DataW H} {p : List MemPlace} {a : Option Addr} {len cap : Nat} (hsz : (DataW.weightsEach Try.prog ts ds).all (· ≤ reachBytes) = true) (ht : ts[j]? = some 24) (hd : ds[j]? = some d)
    (h : DataW.Trod enc Try.prog W 0 (fun _ => true) true 24 (.slice a len cap) d p) :
    ∃ l : List CAct, Reads W W.heap.size 3 a len (avs l) ∧ len ≤ cap ∧ cap ≤ maxLen ∧ ∀ x ∈ l, x.name.size ≤ 140737488351232 ∧ x.script.size ≤ 140737488351232 := by
  obtain ⟨fuel, hf⟩ := h
  rcases DataW.trod_slice Try.underlying24 hf with ⟨hcs, hx⟩ | ⟨ad, len', cap', elems, rest, n, _, hcs, hx, _, hl, hm, hlen, hel, _, _⟩
  · simp [Value.cells] at hcs
    obtain ⟨rfl, rfl, rfl⟩ := hcs
    exact ⟨[], Reads.none_ _ _ _ _, Nat.le_refl _, by decide, fun l hl => by cases hl⟩
  · simp [Value.cells] at hcs
    obtain ⟨rfl, rfl, rfl⟩ := hcs
    injection hx with hx1 hx2
    have s1 : Try.prog.cellsOf 39 = 3 := by kernel_rfl
    have one : ∀ i, ∃ x : CAct, i < len → W.cell? (ad.add (i * 3)) = some (.int .i64 x.what) ∧ W.cell? ((ad.add (i * 3)).add 1) = some (.string x.name) ∧ W.cell? ((ad.add (i * 3)).add 2) = some (.string x.script) ∧ x.name.size ≤ 140737488351232 ∧ x.script.size ≤ 140737488351232 := by
      intro i
      by_cases hi : i < len
      · have h1 := hel i hi
        rw [s1] at h1
        have hie : i < elems.length := by omega
        have hei : elems[i]? = some elems[i] := List.getElem?_eq_getElem hie
        rw [hei, Option.bind_eq_some_iff] at h1
        obtain ⟨cs', hcs', hy⟩ := h1
        obtain ⟨c0, c1, c2, rfl, k0, k1, k2⟩ := cells?_three hcs'
        obtain ⟨x, rfl, rfl, rfl, hag⟩ := open_act hy
        have hw : ∀ s : ByteArray, s.data.toList.length ∈ DataW.weights Try.prog 39 elems[i].1 → s.size ≤ 140737488351232 := fun s hs => by
          have hm1 : s.data.toList.length ∈ DataW.weightsEach Try.prog ts ds := DataW.weights_mem_each ht hd _ (by
            rw [hx1]
            unfold DataW.weights
            rw [Try.underlying24]
            exact List.mem_cons_of_mem _ (List.mem_append.2 (.inl (weights_elem (d := elems[i].1) (List.mem_map.2 ⟨elems[i], List.getElem_mem hie, rfl⟩) _ hs))))
          have h7 := List.all_eq_true.1 hsz _ hm1
          have h8 : s.data.toList.length ≤ reachBytes := of_decide_eq_true h7
          rw [Array.length_toList] at h8
          exact h8
        refine ⟨x, fun _ => ⟨k0, k1, k2, hw x.name ?_, hw x.script ?_⟩⟩
        all_goals
          rw [hag]
          unfold DataW.weights
          rw [Try.underlying39]
          simp [DataW.weightsEach, DataW.weights]
      · exact ⟨⟨0, ⟨#[]⟩, ⟨#[]⟩⟩, fun h => absurd h hi⟩
    obtain ⟨f, hf⟩ := Classical.skolem.1 one
    refine ⟨(List.range len).map f, ⟨by rw [avs_len]; simp, fun hn => ?_⟩, hl, hm, fun x hx' => ?_⟩
    · have h0 := (hf 0 (by omega)).1
      have hx0 : ad.add (0 * 3) = ad := rfl
      rw [hx0] at h0
      obtain ⟨b, o, rfl, hb⟩ := at_placeF h0
      refine ⟨b, o, rfl, hb, fun i u hu => ?_⟩
      obtain ⟨k, x, hk, hc⟩ := avs_inv _ _ _ hu
      have hkl : k < len := by
        have := (List.getElem?_eq_some_iff.1 hk).1
        simpa using this
      simp [hkl] at hk
      subst hk
      obtain ⟨q0, q1, q2, _⟩ := hf k hkl
      simp only [add_lit, Nat.add_assoc] at q0 q1 q2
      rcases hc with ⟨rfl, rfl⟩ | ⟨rfl, rfl⟩ | ⟨rfl, rfl⟩
      · exact q0
      · exact q1
      · exact q2
    · obtain ⟨i, hi, rfl⟩ := List.mem_map.1 hx'
      exact (hf i (List.mem_range.1 hi)).2.2.2
end Go.Proofs.Ythfgblchlgodmaa
