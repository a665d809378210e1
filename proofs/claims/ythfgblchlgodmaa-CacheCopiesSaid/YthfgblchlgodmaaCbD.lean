/- Two maps of texts held against each other, and a map's copy, as entries (packages maps, cache). Conditions: those of each theorem. -/
import Derived.Test.YthfgblchlgodmaaCbC
import Derived.Test.YthfgblchlgodmaaCbB
namespace Go.Proofs.Ythfgblchlgodmaa
open Go.RowKit Go.Maps Go.Shelf Go.MapKept
set_option linter.unusedVariables false

theorem Try.clone_any {r : Nat} {kvs : List KV} (w : World) (h : Ms w r kvs) : Calls Try.prog 36 #[.map (some r)] w fun e w' => e = .returned (.map (some w.heap.size)) ∧ Ms w' w.heap.size kvs ∧ Below w.heap.size w w' ∧ w.heap.size < w'.heap.size := by
  obtain ⟨es, clock, h1, h2, h3⟩ := h
  refine (AnyW.maps_Clone Try.clone36 r es clock w h1).mono ?_
  rintro e w' ⟨rfl, rfl⟩
  exact ⟨rfl, ⟨es, clock, World.alloc_heap_new w _, h2, h3⟩, (Below.refl _ w).alloc (Nat.le_refl _) _, by simp⟩
/-- an entry's data -/
def eD (x : ED) : Lit × DataW Unit := (.string x.1.data.toList, .lit (.string x.2.data.toList))
def rdS : Value → Option (DataW Unit × List MemPlace)
  | .string s => some (.lit (.string s.data.toList), [])
  | _ => none
def eqdS : DataW Unit → DataW Unit → Bool
  | .lit (.string a), .lit (.string b) => a == b
  | _, _ => false
set_option maxRecDepth 20000 in
theorem ms_ownsS {w : World} {r : Nat} {l : EL} (h : Ms w r (l.map eKV)) (hl : l.length ≤ maxLen) (hs : ∀ x ∈ l, x.1.size ≤ maxLen) :
    ∃ es : List (Lit × DataW Unit), w.ownsMap Try.prog 9 rdS r l.length (.map es) ∧ es.Perm (l.map eD) := by
  obtain ⟨es, clock, h1, h2, h3⟩ := h
  have hlen : es.size = l.length := by have := congrArg List.length h2; simpa using this
  have hkey : ∀ x ∈ es.toList, ∃ y ∈ l, x.key = .string y.1 ∧ x.val = .string y.2 := fun x hx => by
    have h4 : (x.key, x.val) ∈ (l.map eKV).map kvV := by rw [← h2]; exact List.mem_map.2 ⟨x, hx, rfl⟩
    rw [List.map_map] at h4
    obtain ⟨p, hp, hpe⟩ := List.mem_map.1 h4
    injection hpe with e1 e2
    exact ⟨p, hp, e1.symm, e2.symm⟩
  have hrd : ∀ x ∈ es.toList, ∀ y ∈ l, x.key = .string y.1 → x.val = .string y.2 → Go.WideElems.rd (H := Unit) Try.prog 9 rdS x = some (eD y) := fun x hx y hy e1 e2 => by
    unfold Go.WideElems.rd
    rw [e1, e2]
    simp [keyOf, Try.underlying9, mapKey, hs y hy, rdS, eD]
  refine ⟨_, ⟨es, clock, h1, ⟨by rw [hlen]; exact hl, h3, fun x hx => ?_⟩, by rw [hlen]; exact Nat.le_refl _, rfl⟩, ?_⟩
  · obtain ⟨y, hy, e1, e2⟩ := hkey x hx
    exact ⟨_, hrd x hx y hy e1 e2⟩
  · refine (Go.WideShapes.sorted_perm _).trans ?_
    have e3 : es.toList.map (Go.WideElems.rg (H := Unit) Try.prog 9 rdS) = (es.toList.map fun e => (e.key, e.val)).map fun (q : Value × Value) => ((.string (keyB q.1), .lit (.string (keyB q.2))) : Lit × DataW Unit) := by
      rw [List.map_map]
      refine List.map_congr_left fun x hx => ?_
      obtain ⟨y, hy, e1, e2⟩ := hkey x hx
      rw [Go.WideElems.rg_of (hrd x hx y hy e1 e2)]
      simp [e1, e2, eD, keyB]
    rw [e3, h2, List.map_map, List.map_map]
    exact .refl _
theorem neq_strS (W : World) (x y : Value) (xd yd : DataW Unit) (xp yp : List MemPlace) (hx : rdS x = some (xd, xp)) (hy : rdS y = some (yd, yp)) :
    (binOp .neq 9 x y).run Try.prog W = .ok (.bool (!eqdS xd yd)) W ∧ ∀ (a b : Operand), (eqGuard .neq 9 a b x y).run Try.prog W = .ok () W := by
  cases x <;> try (cases hx)
  cases y <;> try (cases hy)
  have u9 := Try.underlying9
  refine ⟨?_, fun a b => ?_⟩
  · go_simp
    simp [eqdS, ByteArray.toList_eq]
  · simp [eqGuard, go_sem]
theorem entsD {es : List (Lit × DataW Unit)} {l S : EL} (he : es.Perm (l.map eD)) (hp : l.Perm S) : es.Perm (S.map eD) := he.trans (hp.map _)
theorem eD_inj {x y : ED} (h : eD x = eD y) : x = y := by
  unfold eD at h
  injection h with h1 h2
  injection h1 with h1
  injection h2 with h2
  injection h2 with h2
  exact Prod.ext (ba_ext h1) (ba_ext h2)
theorem equal_same {es1 es2 : List (Lit × DataW Unit)} {S : EL} (h1 : es1.Perm (S.map eD)) (h2 : es2.Perm (S.map eD)) (hr : Rise S) : Lib.equalFuncD eqdS (.map es1) (.map es2) = true := by
  have hkeys : ∀ p ∈ es2, WideAt.IsKeyLit p.1 := fun p hp => by
    obtain ⟨x, _, rfl⟩ := List.mem_map.1 (h2.mem_iff.1 hp)
    simp [eD, WideAt.IsKeyLit]
  have hap : es2.Pairwise (fun p q => p.1 ≠ q.1) := by
    refine (List.Perm.pairwise_iff (fun h e => h e.symm) h2).2 ?_
    rw [List.pairwise_map]
    refine List.Pairwise.imp (fun h e => ?_) hr
    unfold eD at e
    injection e with e
    exact h.ne (ba_ext e)
  unfold Lib.equalFuncD
  rw [decide_eq_true (by show es1.length = es2.length; rw [h1.length_eq, h2.length_eq]), Bool.true_and]
  refine List.all_eq_true.2 fun p hp => ?_
  have hp2 : p ∈ es2 := h2.mem_iff.2 (h1.mem_iff.1 hp)
  unfold Lib.goodD
  rw [show Maps.has (.map es2 : DataW Unit) p.1 = true from List.any_eq_true.2 ⟨p, hp2, WideAt.sameKey_self (hkeys p hp2)⟩, Bool.true_and, WideAt.atKey_mem .nil (hkeys p hp2) hap hp2]
  obtain ⟨x, _, rfl⟩ := List.mem_map.1 (h1.mem_iff.1 hp)
  simp [eD, eqdS]
theorem perm_of_sub {α : Type} : ∀ {l m : List α}, l.Nodup → (∀ x ∈ l, x ∈ m) → m.length ≤ l.length → l.Perm m
  | [], m, _, _, hl => by
    have : m = [] := List.eq_nil_of_length_eq_zero (by simpa using hl)
    rw [this]
  | a :: l, m, hd, hs, hl => by
    obtain ⟨m1, m2, rfl⟩ := List.append_of_mem (hs a (by simp))
    rw [List.nodup_cons] at hd
    have hp := perm_of_sub (l := l) (m := m1 ++ m2) hd.2 (fun x hx => by
      have h1 := hs x (by simp [hx])
      have h2 : x ≠ a := fun e => hd.1 (e ▸ hx)
      simp only [List.mem_append, List.mem_cons] at h1 ⊢
      rcases h1 with h1 | h1 | h1
      · exact .inl h1
      · exact absurd h1 h2
      · exact .inr h1) (by simp at hl ⊢; omega)
    exact (hp.cons a).trans List.perm_middle.symm
theorem rise_nodup {l : EL} (h : Rise l) : l.Nodup := by
  unfold List.Nodup
  have h' : l.Pairwise fun x y => NLt x.1 y.1 := h
  exact h'.imp fun h e => h.ne (congrArg Prod.fst e)
theorem equal_not {es1 es2 : List (Lit × DataW Unit)} {S T : EL} (h1 : es1.Perm (S.map eD)) (h2 : es2.Perm (T.map eD)) (hr : Rise S) (ht : Rise T) (hne : S ≠ T) : Lib.equalFuncD eqdS (.map es1) (.map es2) = false := by
  have hkeys : ∀ p ∈ es2, WideAt.IsKeyLit p.1 := fun p hp => by
    obtain ⟨x, _, rfl⟩ := List.mem_map.1 (h2.mem_iff.1 hp)
    simp [eD, WideAt.IsKeyLit]
  have hap : es2.Pairwise (fun p q => p.1 ≠ q.1) := by
    refine (List.Perm.pairwise_iff (fun h e => h e.symm) h2).2 ?_
    rw [List.pairwise_map]
    refine List.Pairwise.imp (fun h e => ?_) ht
    unfold eD at e
    injection e with e
    exact h.ne (ba_ext e)
  cases hb : Lib.equalFuncD eqdS (.map es1) (.map es2) with
  | false => rfl
  | true =>
    exfalso
    unfold Lib.equalFuncD at hb
    rw [Bool.and_eq_true] at hb
    obtain ⟨hb1, hb2⟩ := hb
    have hlen : es1.length = es2.length := of_decide_eq_true hb1
    rw [h1.length_eq, h2.length_eq, List.length_map, List.length_map] at hlen
    have hsub : ∀ x ∈ S, x ∈ T := fun x hx => by
      have hx1 : eD x ∈ es1 := h1.mem_iff.2 (List.mem_map.2 ⟨x, hx, rfl⟩)
      have hg := List.all_eq_true.1 hb2 _ hx1
      unfold Lib.goodD at hg
      rw [Bool.and_eq_true] at hg
      obtain ⟨q, hq, hs⟩ := List.any_eq_true.1 (show es2.any (fun p => p.1.sameKey (eD x).1) = true from hg.1)
      have e1 : q.1 = (eD x).1 := WideAt.sameKey_eq hs
      have e2 := WideAt.atKey_mem .nil (hkeys q hq) hap hq
      rw [e1] at e2
      have hg2 := hg.2
      rw [e2] at hg2
      obtain ⟨y, hy, rfl⟩ := List.mem_map.1 (h2.mem_iff.1 hq)
      simp only [eD, eqdS, beq_iff_eq] at hg2
      have e3 : y.1.data.toList = x.1.data.toList := by
        unfold eD at e1
        injection e1
      have : x = y := Prod.ext (ba_ext e3.symm) (ba_ext hg2)
      rw [this]
      exact hy
    have hperm : S.Perm T := perm_of_sub (rise_nodup hr) hsub (by omega)
    exact hne (rise_eq hr ht hperm)
theorem Try.equal_any {r1 r2 : Nat} {l m S T : EL} (w : World) (h1 : Ms w r1 (l.map eKV)) (h2 : Ms w r2 (m.map eKV)) (p1 : l.Perm S) (p2 : m.Perm T) (s1 : Rise S) (s2 : Rise T) (hl1 : S.length ≤ 30000) (hl2 : T.length ≤ 30000) (k1 : ∀ x ∈ S, x.1.size ≤ maxLen) (k2 : ∀ x ∈ T, x.1.size ≤ maxLen) :
    Calls Try.prog 39 #[.map (some r1), .map (some r2)] w fun e w' => e = .returned (.bool (decide (S = T))) ∧ Below w.heap.size w w' := by
  obtain ⟨es1, o1, q1⟩ := ms_ownsS h1 (by rw [p1.length_eq]; unfold maxLen; omega) (fun x hx => k1 x (p1.mem_iff.1 hx))
  obtain ⟨es2, o2, q2⟩ := ms_ownsS h2 (by rw [p2.length_eq]; unfold maxLen; omega) (fun x hx => k2 x (p2.mem_iff.1 hx))
  have h := AnyEq.maps_Equal Try.equal39 (string_keyed Try.underlying9) rdS rdS eqdS r1 r2 l.length m.length (.map es1) (.map es2) w o1 o2 (.string ⟨#[]⟩) zero_str (.lit (.string [])) [] rfl neq_strS
  refine h.mono ?_
  rintro e w' ⟨rfl, hg⟩
  refine ⟨?_, (Below.refl _ w).grown hg (Nat.le_refl _) (fun j hj => by cases hj)⟩
  by_cases hST : S = T
  · subst hST
    rw [equal_same (entsD q1 p1) (entsD q2 p2) s1]
    simp
  · rw [equal_not (entsD q1 p1) (entsD q2 p2) s1 s2 hST, decide_eq_false hST]
end Go.Proofs.Ythfgblchlgodmaa
