/- The files of a disk by rising names; the walk of all, as a range over it is told (package disk). Conditions: those of each theorem. -/
import Derived.Test.YtaaaljpnhfmbpaaDkF
import Derived.Test.YtaaaljpnhfmbpaaDkI
import Derived.Test.YtaaaljpnhfmbpaaRangeP
import Derived.Shelf.AbstractIn
namespace Go.Proofs.Ytaaaljpnhfmbpaa
open Go.RowKit Go.Shelf Go.MapKept
set_option linter.unusedVariables false

def keyB : Value → List UInt8
  | .string s => s.data.toList
  | _ => []
def keysB (kvs : List KV) : List (List UInt8) := kvs.map fun p => p.1.data.toList
set_option maxRecDepth 20000 in
theorem ms_owns {w : World} {r : Nat} {kvs : List KV} (h : Ms w r kvs) (hl : kvs.length ≤ maxLen) (hs : ∀ p ∈ kvs, p.1.size ≤ maxLen) :
    ∃ D0 : DataW Unit, w.ownsMap Try.prog 9 (fun _ => some (.nil, [])) r kvs.length D0 ∧ Maps.size D0 = kvs.length ∧ (strKeys D0).Perm (keysB kvs) := by
  obtain ⟨es, clock, h1, h2, h3⟩ := h
  have hlen : es.size = kvs.length := by have := congrArg List.length h2; simpa using this
  have hkey : ∀ x ∈ es.toList, ∃ s : ByteArray, x.key = .string s ∧ s.size ≤ maxLen := fun x hx => by
    have h4 : (x.key, x.val) ∈ kvs.map kvV := by rw [← h2]; exact List.mem_map.2 ⟨x, hx, rfl⟩
    obtain ⟨p, hp, hpe⟩ := List.mem_map.1 h4
    unfold kvV at hpe
    injection hpe with e1 e2
    exact ⟨p.1, e1.symm, hs p hp⟩
  have hrd : ∀ x ∈ es.toList, Go.WideElems.rd (H := Unit) Try.prog 9 (fun _ => some (.nil, [])) x = some (.string (keyB x.key), .nil) := fun x hx => by
    obtain ⟨s, e, hz⟩ := hkey x hx
    unfold Go.WideElems.rd
    rw [e]
    simp [keyOf, Try.underlying9, mapKey, hz, keyB]
  refine ⟨_, ⟨es, clock, h1, ⟨by rw [hlen]; exact hl, h3, fun x hx => ⟨_, hrd x hx⟩⟩, by rw [hlen]; exact Nat.le_refl _, rfl⟩, ?_, ?_⟩
  · rw [Maps.size_eq, (Go.WideShapes.sorted_perm _).length_eq, List.length_map, Array.length_toList, hlen]
  · simp only [strKeys]
    refine ((Go.WideShapes.sorted_perm _).map _).trans ?_
    rw [List.map_map]
    have e1 : es.toList.map ((fun p => strOf p.1) ∘ Go.WideElems.rg (H := Unit) Try.prog 9 (fun _ => some (.nil, []))) = es.toList.map (fun x => keyB x.key) :=
      List.map_congr_left fun x hx => by
        show strOf (Go.WideElems.rg (H := Unit) Try.prog 9 (fun _ => some (.nil, [])) x).1 = _
        rw [Go.WideElems.rg_of (hrd x hx)]
        rfl
    rw [e1]
    have e2 : es.toList.map (fun x => keyB x.key) = keysB kvs := by
      have := congrArg (fun l => l.map fun (q : Value × Value) => keyB q.1) h2
      simp only [List.map_map] at this
      exact this
    rw [e2]
/-- the names, rising -/
def namesF (fs : List FP) : List (List UInt8) := (keysB (fs.map fkv)).mergeSort leB
/-- the files, by rising names -/
def srtF (fs : List FP) : List FP := (namesF fs).filterMap fun x => fs.find? fun f => decide (f.name = ⟨x.toArray⟩)
theorem namesF_mem {fs : List FP} {x : List UInt8} (h : x ∈ namesF fs) : ∃ f, fs.find? (fun f => decide (f.name = ⟨x.toArray⟩)) = some f := by
  have h1 : x ∈ keysB (fs.map fkv) := (List.mergeSort_perm _ leB).mem_iff.1 h
  unfold keysB at h1
  rw [List.map_map] at h1
  obtain ⟨f, hf, rfl⟩ := List.mem_map.1 h1
  have : (fs.find? fun f' => decide (f'.name = ⟨((fun p : KV => p.1.data.toList) (fkv f)).toArray⟩)).isSome := by
    rw [List.find?_isSome]
    exact ⟨f, hf, by simp [fkv]⟩
  exact Option.isSome_iff_exists.1 this
theorem srtF_at {fs : List FP} {t : Nat} {x : List UInt8} (h : (namesF fs)[t]? = some x) : ∃ f, fs.find? (fun f => decide (f.name = ⟨x.toArray⟩)) = some f ∧ f ∈ fs ∧ f.name = ⟨x.toArray⟩ ∧ (srtF fs).take (t + 1) = (srtF fs).take t ++ [f] := by
  have hall : ∀ (l : List (List UInt8)), (∀ x ∈ l, ∃ f, fs.find? (fun f => decide (f.name = ⟨x.toArray⟩)) = some f) → ∀ (t : Nat) (x : List UInt8) (f : FP), l[t]? = some x → fs.find? (fun f => decide (f.name = ⟨x.toArray⟩)) = some f →
      (l.filterMap fun x => fs.find? fun f => decide (f.name = ⟨x.toArray⟩))[t]? = some f := by
    intro l
    induction l with
    | nil => intro _ t x f h _; simp at h
    | cons y l ih =>
      intro hm t x f hx hf
      obtain ⟨fy, hy⟩ := hm y (by simp)
      rw [List.filterMap_cons, hy]
      cases t with
      | zero =>
        simp at hx
        subst hx
        rw [hy] at hf
        simpa using hf
      | succ t =>
        simp at hx
        simpa using ih (fun z hz => hm z (by simp [hz])) t x f hx hf
  obtain ⟨f, hf⟩ := namesF_mem (List.mem_of_getElem? h)
  have hfn := List.find?_some hf
  refine ⟨f, hf, List.mem_of_find?_eq_some hf, by simpa using hfn, ?_⟩
  rw [List.take_add_one, show (srtF fs)[t]? = some f from hall _ (fun x hx => namesF_mem hx) t x f h hf]
  rfl
theorem srtF_len (fs : List FP) : (srtF fs).length = (namesF fs).length := by
  have hall : ∀ (l : List (List UInt8)), (∀ x ∈ l, ∃ f, fs.find? (fun f => decide (f.name = ⟨x.toArray⟩)) = some f) → (l.filterMap fun x => fs.find? fun f => decide (f.name = ⟨x.toArray⟩)).length = l.length := by
    intro l
    induction l with
    | nil => intro _; rfl
    | cons y l ih =>
      intro hm
      obtain ⟨fy, hy⟩ := hm y (by simp)
      rw [List.filterMap_cons, hy]
      simp [ih (fun z hz => hm z (by simp [hz]))]
  exact hall _ (fun x hx => namesF_mem hx)
theorem namesF_len (fs : List FP) : (namesF fs).length = fs.length := by
  unfold namesF keysB
  rw [(List.mergeSort_perm _ leB).length_eq, List.length_map, List.length_map]
theorem srtF_one (f : FP) : srtF [f] = [f] := by
  have h : namesF [f] = [f.name.data.toList] := by
    unfold namesF keysB fkv
    simp
  unfold srtF
  rw [h]
  simp

theorem dall_any (g : Nat) (w : World) :
    Calls Try.prog 37 #[.pointer (some ⟨g, 0, none⟩)] w fun e w' => e = .returned (.func (.func 49) #[] #[.pointer (some ⟨w.heap.size, 0, none⟩)]) ∧ w' = w.alloc (.cells #[.pointer (some ⟨g, 0, none⟩)] 28) := by
  go_enter Try.func37, Try.ntmps37
  go_wp2_with fail
  go_ret
  exact ⟨rfl, rfl⟩
end Go.Proofs.Ytaaaljpnhfmbpaa
