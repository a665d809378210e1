/- The walks of sorted, Names (package cache). Conditions: those of each theorem. -/
import Derived.Test.YthfgblchlgodmaaCaW
import Derived.Test.YthfgblchlgodmaaCaI
import Derived.Shelf.AbstractIn
namespace Go.Proofs.Ythfgblchlgodmaa
open Go.RowKit Go.Shelf Go.MapKept
set_option linter.unusedVariables false

def keyB : Value → List UInt8
  | .string s => s.data.toList
  | _ => []
def keysB (kvs : List KV) : List (List UInt8) := kvs.map fun p => p.1.data.toList
set_option maxRecDepth 20000 in
theorem ms_owns {w : World} {r : Nat} {kvs : List KV} (h : Ms w r kvs) (hl : kvs.length ≤ maxLen) (hs : ∀ p ∈ kvs, p.1.size ≤ maxLen) :
    ∃ D0 : DataW Unit, w.ownsMap Try.prog 9 (fun _ => some (.nil, [])) r kvs.length D0 ∧ Maps.size D0 = kvs.length ∧ (strKeys D0).Perm (keysB kvs) := by
  obtain ⟨es, clock, h1, h2, h3⟩ := h
  have hlen : es.size = kvs.length := by have := congrArg List.length h2; simpa using this
  have hkey : ∀ x ∈ es.toList, ∃ s : ByteArray, x.key = .string s ∧ s.size ≤ maxLen := fun x hx => by
    have h4 : (x.key, x.val) ∈ kvs.map kvV := by rw [← h2]; exact List.mem_map.2 ⟨x, hx, rfl⟩
    obtain ⟨p, hp, hpe⟩ := List.mem_map.1 h4
    unfold kvV at hpe
    injection hpe with e1 e2
    exact ⟨p.1, e1.symm, hs p hp⟩
  have hrd : ∀ x ∈ es.toList, Go.WideElems.rd (H := Unit) Try.prog 9 (fun _ => some (.nil, [])) x = some (.string (keyB x.key), .nil) := fun x hx => by
    obtain ⟨s, e, hz⟩ := hkey x hx
    unfold Go.WideElems.rd
    rw [e]
    simp [keyOf, Try.underlying9, mapKey, hz, keyB]
  refine ⟨_, ⟨es, clock, h1, ⟨by rw [hlen]; exact hl, h3, fun x hx => ⟨_, hrd x hx⟩⟩, by rw [hlen]; exact Nat.le_refl _, rfl⟩, ?_, ?_⟩
  · rw [Maps.size_eq, (Go.WideShapes.sorted_perm _).length_eq, List.length_map, Array.length_toList, hlen]
  · simp only [strKeys]
    refine ((Go.WideShapes.sorted_perm _).map _).trans ?_
    rw [List.map_map]
    have e1 : es.toList.map ((fun p => strOf p.1) ∘ Go.WideElems.rg (H := Unit) Try.prog 9 (fun _ => some (.nil, []))) = es.toList.map (fun x => keyB x.key) :=
      List.map_congr_left fun x hx => by
        show strOf (Go.WideElems.rg (H := Unit) Try.prog 9 (fun _ => some (.nil, [])) x).1 = _
        rw [Go.WideElems.rg_of (hrd x hx)]
        rfl
    rw [e1]
    have e2 : es.toList.map (fun x => keyB x.key) = keysB kvs := by
      have := congrArg (fun l => l.map fun (q : Value × Value) => keyB q.1) h2
      simp only [List.map_map] at this
      exact this
    rw [e2]
theorem sort_names {ss S : EL} {xs : List (List UInt8)} (hx : xs.Perm (keysB (ss.map eKV))) (hp : ss.Perm S) (hl : Rise S) : (xs.mergeSort (fun x y => decide (x ≤ y))).map encStr = svs (S.map (·.1)) ∧ xs.length = S.length := by
  have h0 : keysB (ss.map eKV) = ss.map fun x => x.1.data.toList := by
    unfold keysB
    rw [List.map_map]
    rfl
  have hp2 : xs.Perm (S.map fun x => x.1.data.toList) := hx.trans (by rw [h0]; exact hp.map _)
  have h1 : xs.mergeSort (fun x y => decide (x ≤ y)) = S.map fun x => x.1.data.toList := by
    rw [Go.mergeSort_of_perm hp2]
    refine List.mergeSort_of_pairwise ?_
    rw [List.pairwise_map]
    exact List.Pairwise.imp (fun h => leB_of h) hl
  refine ⟨?_, by rw [hp2.length_eq, List.length_map]⟩
  rw [h1]
  unfold svs
  rw [List.map_map, List.map_map]
  rfl

set_option maxHeartbeats 2000000 in
set_option maxRecDepth 20000 in
theorem sorted_any {r : Nat} {ss S : EL} (w : World) (h : Ms w r (ss.map eKV)) (hp : ss.Perm S) (hl : Rise S) (hn : S.length ≤ 30000) (hs : ∀ x ∈ S, x.1.size ≤ maxLen) :
    Calls Try.prog 37 #[.map (some r)] w fun e w' => ∃ v, e = .returned v ∧ w'.ownsRow w.heap.size 9 1 v S.length (svs (S.map (·.1))) ∧ Below w.heap.size w w' := by
  obtain ⟨D0, hown, hsize, hperm⟩ := ms_owns h (by rw [List.length_map, hp.length_eq]; unfold maxLen; omega) (fun p hq => by
    obtain ⟨f, hf, rfl⟩ := List.mem_map.1 hq
    exact hs f (hp.mem_iff.1 hf))
  rw [List.length_map, hp.length_eq] at hsize
  have hb1 : Below w.heap.size w (w.alloc (.cells #[.map (some r)] 71)) := (Below.refl _ w).alloc (Nat.le_refl _) _
  have HP := hide hp
  have HLl := hide hl
  have HS := hide (And.intro (show Maps.size D0 ≤ maxLen by rw [hsize]; unfold maxLen; omega) (show Maps.size D0 * 16 ≤ 140737488355328 by rw [hsize]; omega))
  clear h hsize hp hl
  go_enter Try.func37, Try.ntmps37
  go_wp2_with (first
    | (go_at_call 51
       go_must (
       refine ((callsIn_wide (n := 5)).1 (Try.maps_Keys_51 (some r) w)).mono ?_
       rintro e W1 ⟨rfl, rfl⟩))
    | (go_at_call 50
       go_must (
       refine ((callsIn_wide (n := 5)).1 (Try.slices_Sorted_keys_50_51 r _ D0 _ w hown HS.out.1 HS.out.2)).mono ?_
       rintro e W2 ⟨v, xs, rfl, hxs, hrow, _, hb2⟩))
    | fail)
  go_ret
  obtain ⟨e1, e2⟩ := sort_names (hxs.trans hperm) HP.out HLl.out
  rw [e1, e2] at hrow
  exact ⟨_, rfl, own_base hrow (by simp), hb1.trans (hb2.mono hb1.size)⟩

set_option maxHeartbeats 2000000 in
set_option maxRecDepth 20000 in
theorem cnames_any {g r1 r2 : Nat} {S N : EL} (w : World) (h : CE w g r1 r2 S N) (hn : N.length ≤ 30000) (hs : ∀ x ∈ N, x.1.size ≤ maxLen) :
    Calls Try.prog 29 #[.pointer (some ⟨g, 0, none⟩)] w fun e w' => ∃ v, e = .returned v ∧ w'.ownsRow w.heap.size 9 1 v N.length (svs (N.map (·.1))) ∧ Below w.heap.size w w' := by
  obtain ⟨ss, ns, hq, p1, p2, s1, s2⟩ := h
  have c1 : w.cell? ⟨g, 1, none⟩ = some (.map (some r2)) := hq.1.cell 1
  have HS := hide (sorted_any w hq.2.2.1 p2 s2 hn hs)
  go_enter Try.func29, Try.ntmps29
  go_wp2_with (first
    | (go_at_call 35; refine (cnone_any w hq).mono ?_; rintro e w2 ⟨rfl, rfl⟩)
    | (go_at_call 37; go_must (refine HS.out.mono ?_; rintro e w3 ⟨v, rfl, hrow, hb3⟩))
    | fail)
  go_ret
  exact ⟨_, rfl, hrow, hb3⟩
end Go.Proofs.Ythfgblchlgodmaa
