/- What a law is told of a slice of steps that comes in, as my walks read it: its cells, the bytes of each step, and that no text takes more than the form's reach. -/
import Derived.Test.YtaaaljpnhfmbpaaStepLift
namespace Go.Proofs.Ytaaaljpnhfmbpaa
open Go.RowKit Go.ChangeShapes Go.Deep
set_option linter.unusedVariables false
structure SV where
  what : Int
  name : ByteArray
  tn : ByteArray
  M : Option Addr
  m : Nat
  mc : Nat
  bs : List UInt8
  z : Int
abbrev sv1 (s : SV) : List Value := [.int .i64 s.what, .string s.name, .string s.tn, .slice s.M s.m s.mc, .int .i64 s.z]
def svs5 (l : List SV) : List Value := l.flatMap sv1
theorem svs5_len : ∀ l : List SV, (svs5 l).length = l.length * 5
  | [] => rfl
  | s :: l => by
    have := svs5_len l
    unfold svs5 at this ⊢
    rw [List.flatMap_cons, List.length_append, this, List.length_cons]
    simp
    omega
theorem svs5_inv : ∀ (l : List SV) (j : Nat) (u : Value), (svs5 l)[j]? = some u → ∃ (i : Nat) (s : SV) (k : Nat), l[i]? = some s ∧ k < 5 ∧ j = i * 5 + k ∧ (sv1 s)[k]? = some u
  | [], j, u, h => by simp [svs5] at h
  | s :: l, j, u, h => by
    unfold svs5 at h
    rw [List.flatMap_cons] at h
    by_cases hj : j < 5
    · rw [List.getElem?_append_left (by simpa using hj)] at h
      exact ⟨0, s, j, rfl, hj, by omega, h⟩
    · rw [List.getElem?_append_right (by simpa using hj)] at h
      obtain ⟨i, s', k, h1, h2, h3, h4⟩ := svs5_inv l (j - 5) u (by simpa [svs5] using h)
      exact ⟨i + 1, s', k, by simpa using h1, h2, by omega, h4⟩
theorem cells?_five {w : World} {base : Nat} {a : Addr} {cs : List Value} (h : w.cells? base a 5 = some cs) : ∃ x y z t s, cs = [x, y, z, t, s] ∧ w.cell? a = some x ∧ w.cell? (a.add 1) = some y ∧ w.cell? (a.add 2) = some z ∧ w.cell? (a.add 3) = some t ∧ w.cell? (a.add 4) = some s := by
  unfold World.cells? at h
  split at h
  · simp only [List.range, List.range.loop, List.mapM_cons, List.mapM_nil, Option.bind_eq_bind, Option.pure_def, Option.bind_eq_some_iff] at h
    obtain ⟨x, hx, r1, ⟨y, hy, r2, ⟨z, hz, r3, ⟨t, ht, r4, ⟨s, hs, r5, h3, h4⟩, h5⟩, h6⟩, h7⟩, h8⟩ := h
    cases h3
    cases h4
    cases h5
    cases h6
    cases h7
    cases h8
    exact ⟨x, y, z, t, s, rfl, hx, hy, hz, ht, hs⟩
  · cases h
def StepOk (W : World) (s : SV) : Prop := Reads W W.heap.size 1 s.M s.m (bvs s.bs) ∧ s.m ≤ maxLen ∧ s.name.size ≤ 140737488351232 ∧ s.tn.size ≤ 140737488351232
theorem open_steps {H : Type} {enc : TypeId × Value → H} {W : World} {ts : List TypeId} {ds : List (DataW H)} {j : Nat} {d : DataW H} {p : List MemPlace} {a : Option Addr} {len cap : Nat} (hsz : (DataW.weightsEach Try.prog ts ds).all (· ≤ reachBytes) = true) (ht : ts[j]? = some 57) (hd : ds[j]? = some d)
    (h : DataW.Trod enc Try.prog W 0 (fun _ => true) true 57 (.slice a len cap) d p) :
    ∃ l : List SV, Reads W W.heap.size 5 a len (svs5 l) ∧ len ≤ cap ∧ cap ≤ maxLen ∧ ∀ s ∈ l, StepOk W s := by
  obtain ⟨fuel, hf⟩ := h
  rcases DataW.trod_slice Try.underlying57 hf with ⟨hcs, hx⟩ | ⟨ad, len', cap', elems, rest, n, _, hcs, hx, _, hl, hm, hlen, hel, _, _⟩
  · simp [Value.cells] at hcs
    obtain ⟨rfl, rfl, rfl⟩ := hcs
    exact ⟨[], Reads.none_ _ _ _ _, Nat.le_refl _, by decide, fun l hl => by cases hl⟩
  · simp [Value.cells] at hcs
    obtain ⟨rfl, rfl, rfl⟩ := hcs
    injection hx with hx1 hx2
    have s1 : Try.prog.cellsOf 48 = 5 := by kernel_rfl
    have one : ∀ i, ∃ s : SV, i < len → (∀ k u, (sv1 s)[k]? = some u → W.cell? ((ad.add (i * 5)).add k) = some u) ∧ StepOk W s := by
      intro i
      by_cases hi : i < len
      · have h1 := hel i hi
        rw [s1] at h1
        have hie : i < elems.length := by omega
        have hei : elems[i]? = some elems[i] := List.getElem?_eq_getElem hie
        rw [hei, Option.bind_eq_some_iff] at h1
        obtain ⟨cs', hcs', hy⟩ := h1
        obtain ⟨c0, c1, c2, c3, c4, rfl, k0, k1, k2, k3, k4⟩ := cells?_five hcs'
        obtain ⟨what, name, tn, M, m, mc, bs, z, rfl, rfl, rfl, rfl, rfl, hM, hc, hmm, hwn, hwt⟩ := open_step hy
        have hw : ∀ s : ByteArray, s.data.toList.length ∈ DataW.weights Try.prog 48 elems[i].1 → s.size ≤ 140737488351232 := fun s hs => by
          have hm1 : s.data.toList.length ∈ DataW.weightsEach Try.prog ts ds := DataW.weights_mem_each ht hd _ (by
            rw [hx1]
            unfold DataW.weights
            rw [Try.underlying57]
            exact List.mem_cons_of_mem _ (List.mem_append.2 (.inl (weights_elem (d := elems[i].1) (List.mem_map.2 ⟨elems[i], List.getElem_mem hie, rfl⟩) _ hs))))
          have h7 := List.all_eq_true.1 hsz _ hm1
          have h8 : s.data.toList.length ≤ reachBytes := of_decide_eq_true h7
          rw [Array.length_toList] at h8
          exact h8
        refine ⟨⟨what, name, tn, M, m, mc, bs, z⟩, fun _ => ⟨fun k u hu => ?_, hM, Nat.le_trans hc hmm, hw name hwn, hw tn hwt⟩⟩
        match k, hu with
        | 0, hu => exact k0.trans hu
        | 1, hu => exact k1.trans hu
        | 2, hu => exact k2.trans hu
        | 3, hu => exact k3.trans hu
        | 4, hu => exact k4.trans hu
        | k + 5, hu => simp at hu
      · exact ⟨⟨0, ⟨#[]⟩, ⟨#[]⟩, none, 0, 0, [], 0⟩, fun h => absurd h hi⟩
    obtain ⟨f, hf⟩ := Classical.skolem.1 one
    refine ⟨(List.range len).map f, ⟨by rw [svs5_len]; simp, fun hn => ?_⟩, hl, hm, fun x hx' => ?_⟩
    · have h0 := (hf 0 (by omega)).1 0 _ rfl
      have hx0 : (ad.add (0 * 5)).add 0 = ad := rfl
      rw [hx0] at h0
      obtain ⟨b, o, rfl, hb⟩ := at_placeF h0
      refine ⟨b, o, rfl, hb, fun i u hu => ?_⟩
      obtain ⟨k, x, q, hk, hq, rfl, hc⟩ := svs5_inv _ _ _ hu
      have hkl : k < len := by
        have := (List.getElem?_eq_some_iff.1 hk).1
        simpa using this
      simp [hkl] at hk
      subst hk
      have h9 := (hf k hkl).1 q u hc
      simp only [add_lit, Nat.add_assoc] at h9
      exact h9
    · obtain ⟨i, hi, rfl⟩ := List.mem_map.1 hx'
      exact (hf i (List.mem_range.1 hi)).2
end Go.Proofs.Ytaaaljpnhfmbpaa
