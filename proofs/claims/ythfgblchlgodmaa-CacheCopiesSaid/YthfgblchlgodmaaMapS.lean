/- A map under texts of the call's own: what is found, put, struck out. Conditions: those of each theorem. -/
import Derived.Test.YthfgblchlgodmaaLib
import Derived.MapKept
import Derived.WideMake
import Derived.RangeFuncOwn
import Derived.RangeFuncRecord
namespace Go.Proofs.Ythfgblchlgodmaa
open Go.RowKit Go.MapKept
set_option linter.unusedVariables false

abbrev KV := ByteArray × Value
def kvV (p : KV) : Value × Value := (.string p.1, p.2)
/-- the map at r has these entries, in this order -/
def Ms (w : World) (r : Nat) (kvs : List KV) : Prop := ∃ es clock, w.heap[r]? = some (.map es clock) ∧ es.toList.map (fun e => (e.key, e.val)) = kvs.map kvV ∧ Stamped es clock
def lookS (kvs : List KV) (k : ByteArray) : Option Value := (kvs.find? fun p => decide (p.1 = k)).map (·.2)
def putS : List KV → ByteArray → Value → List KV
  | [], k, v => [(k, v)]
  | p :: r, k, v => if p.1 = k then (k, v) :: r else p :: putS r k v
def delS : List KV → ByteArray → List KV
  | [], _ => []
  | p :: r, k => if p.1 = k then r else p :: delS r k
theorem beq_no {a b : ByteArray} (h : ¬ a = b) : (a == b) = false := by
  cases hx : (a == b) with
  | false => rfl
  | true => exact absurd ((bytes_beq a b).1 hx) h
theorem finds (k : ByteArray) : ∀ (kvs : List KV) (es : List MapEntry) (i : Nat), es.map (fun e => (e.key, e.val)) = kvs.map kvV →
    (lookS kvs k = none ∧ Instr.findNow .string (.string k) es i = some none ∧ (∀ x, putS kvs k x = kvs ++ [(k, x)]) ∧ delS kvs k = kvs ∧ ∀ e ∈ es, e.key ≠ .string k) ∨
    ∃ j v, lookS kvs k = some v ∧ Instr.findNow .string (.string k) es i = some (some (i + j, v)) ∧ j < es.length ∧ (∀ x, putS kvs k x = kvs.set j (k, x)) ∧ delS kvs k = kvs.eraseIdx j ∧ (es[j]?).map (·.key) = some (.string k)
  | [], es, i, h => by
    cases es with
    | nil => exact .inl ⟨rfl, rfl, fun _ => rfl, rfl, fun e he => by cases he⟩
    | cons e es => simp at h
  | p :: kvs, es, i, h => by
    cases es with
    | nil => simp at h
    | cons e es =>
      simp only [List.map_cons, List.cons.injEq, Prod.mk.injEq, kvV] at h
      obtain ⟨⟨h1, h1'⟩, h2⟩ := h
      by_cases hx : p.1 = k
      · refine .inr ⟨0, p.2, ?_, ?_, by simp, fun x => ?_, ?_, ?_⟩
        · unfold lookS; rw [List.find?_cons_of_pos (by simpa using hx)]; rfl
        · have hb : (k == p.1) = true := (bytes_beq _ _).2 hx.symm
          simp only [Instr.findNow, h1, h1', Instr.sameNow, hb, Nat.add_zero]
        · unfold putS; rw [if_pos hx]; rfl
        · unfold delS; rw [if_pos hx]; rfl
        · rw [← hx, ← h1]; rfl
      · have hb : (k == p.1) = false := beq_no (fun e => hx e.symm)
        have hl : lookS (p :: kvs) k = lookS kvs k := by unfold lookS; rw [List.find?_cons_of_neg (by simpa using hx)]
        have hf : Instr.findNow .string (.string k) (e :: es) i = Instr.findNow .string (.string k) es (i + 1) := by
          simp only [Instr.findNow, h1, Instr.sameNow, hb]
        rcases finds k kvs es (i + 1) h2 with ⟨a1, a2, a3, a4, a5⟩ | ⟨j, v, a1, a2, a3, a4, a5, a6⟩
        · refine .inl ⟨hl.trans a1, hf.trans a2, fun x => ?_, ?_, fun e' he' => ?_⟩
          · unfold putS; rw [if_neg hx, a3 x]; rfl
          · unfold delS; rw [if_neg hx, a4]
          · rcases List.mem_cons.1 he' with rfl | he'
            · rw [h1]; exact fun e => hx (by injection e)
            · exact a5 e' he'
        · refine .inr ⟨j + 1, v, hl.trans a1, ?_, by simp; omega, fun x => ?_, ?_, ?_⟩
          · rw [hf, a2, show i + 1 + j = i + (j + 1) by omega]
          · unfold putS; rw [if_neg hx, a4 x]; rfl
          · unfold delS; rw [if_neg hx, a5]; rfl
          · simpa using a6
theorem map_erase {α β : Type} (f : α → β) : ∀ (l : List α) (j : Nat), (l.eraseIdx j).map f = (l.map f).eraseIdx j
  | [], j => by simp
  | x :: l, 0 => rfl
  | x :: l, j + 1 => by simp [map_erase f l j]
theorem Ms.made (w : World) : Ms (w.alloc (.map #[] 0)) w.heap.size [] := ⟨#[], 0, World.alloc_heap_new w _, rfl, stamped_empty 0⟩
theorem Ms.lt {w : World} {r : Nat} {kvs : List KV} (h : Ms w r kvs) : r < w.heap.size := by
  obtain ⟨es, clock, h1, _⟩ := h
  exact (Array.getElem?_eq_some_iff.1 h1).1
theorem Ms.keep {w w' : World} {r : Nat} {kvs : List KV} (h : Ms w r kvs) (hk : w'.heap[r]? = w.heap[r]?) : Ms w' r kvs := by
  obtain ⟨es, clock, h1, h2⟩ := h
  exact ⟨es, clock, hk.trans h1, h2⟩
theorem Ms.below {w w' : World} {r B : Nat} {kvs : List KV} (h : Ms w r kvs) (hb : Below B w w') (hr : r < B) : Ms w' r kvs := h.keep (hb.block r hr)
theorem Ms.alloc {w : World} {r : Nat} {kvs : List KV} (h : Ms w r kvs) (o : Obj) : Ms (w.alloc o) r kvs := h.keep (Below.heap_alloc w o r h.lt)
theorem Ms.drew {w : World} {r : Nat} {kvs : List KV} (h : Ms w r kvs) : Ms w.drew r kvs := h
theorem Ms.drewN {w : World} {r : Nat} {kvs : List KV} (h : Ms w r kvs) (n : Nat) : Ms (w.drewN n) r kvs := h
theorem Ms.setCell {w : World} {r : Nat} {kvs : List KV} (h : Ms w r kvs) {p : Addr} (hp : r ≠ p.block) (u : Value) : Ms (w.setCell p u) r kvs := h.keep (Below.heap_setCell w p u r hp)
theorem Ms.far {w : World} {r q : Nat} {kvs : List KV} (h : Ms w r kvs) (hq : r ≠ q) (o : Obj) : Ms (w.putObj q o) r kvs := h.keep (by simp [World.putObj, Ne.symm hq])
theorem Ms.isMap {w : World} {r : Nat} {kvs : List KV} (h : Ms w r kvs) : ∃ o, w.heap[r]? = some o ∧ o.isCells = false := by
  obtain ⟨es, clock, h1, _⟩ := h
  exact ⟨_, h1, rfl⟩
theorem Blk.putObj {w : World} {g r : Nat} {t : TypeId} {cs : Array Value} {kvs : List KV} (h : Blk w g t cs) (hm : Ms w r kvs) (o : Obj) : Blk (w.putObj r o) g t cs := by
  have hne : g ≠ r := fun e => by
    obtain ⟨es, clock, h1, _⟩ := hm
    unfold Blk at h
    rw [e, h1] at h
    cases h
  unfold Blk
  have : (w.putObj r o).heap[g]? = w.heap[g]? := by simp [World.putObj, Ne.symm hne]
  exact this.trans h
section
variable {P : Program} {mt kt et : TypeId} (hm : P.underlying mt = some (.map kt et)) (hk : P.underlying kt = some .string)
include hm hk
theorem Ms.lookup {w : World} {r : Nat} {kvs : List KV} (h : Ms w r kvs) (k : ByteArray) {z : Value} (hz : ∀ w, (zeroValue et).run P w = .ok z w) :
    (Instr.lookup mt (.map (some r)) (.string k) true).run P w = .ok (.tuple #[(lookS kvs k).getD z, .bool (lookS kvs k).isSome]) w ∧
    (Instr.lookup mt (.map (some r)) (.string k) false).run P w = .ok ((lookS kvs k).getD z) w := by
  obtain ⟨es, clock, h1, h2, h3⟩ := h
  have hc : ∀ e, (Instr.checkKey e 10000 kt (.string k)).run P w = .ok () w := fun e => run_checkKey (k := .string k) hk (by simp [IsKey]) e 9999
  rcases finds k kvs es.toList 0 h2 with ⟨a1, a2, _⟩ | ⟨j, v, a1, a2, _⟩
  · rw [a1]
    constructor <;> simp [Instr.lookup, run_underlying hm, MapKept.run_getObj_map h1, hc, run_findKey hk a2, hz]
  · rw [a1]
    constructor <;> simp [Instr.lookup, run_underlying hm, MapKept.run_getObj_map h1, hc, run_findKey hk a2]
theorem Ms.update {w : World} {r : Nat} {kvs : List KV} (h : Ms w r kvs) (k : ByteArray) (x : Value) : ∃ o, (Instr.mapUpdate mt (.map (some r)) (.string k) x).run P w = .ok () (w.putObj r o) ∧ Ms (w.putObj r o) r (putS kvs k x) := by
  have hlt := h.lt
  obtain ⟨es, clock, h1, h2, h3⟩ := h
  have hc : ∀ e, (Instr.checkKey e 10000 kt (.string k)).run P w = .ok () w := fun e => run_checkKey (k := .string k) hk (by simp [IsKey]) e 9999
  have hs : ∀ o, (setObj r o).run P w = .ok () (w.putObj r o) := fun o => by simp [setObj, Sem.run, h1, World.putObj]
  rcases finds k kvs es.toList 0 h2 with ⟨a1, a2, a3, a4, a5⟩ | ⟨j, v, a1, a2, a3, a4, a5, a6⟩
  · refine ⟨.map (es.push { key := .string k, val := x, born := clock }) (clock + 1), ?_, _, _, World.putObj_heap_same hlt, by rw [a3 x]; simp [h2, kvV], stamped_push h3 a5⟩
    simp [Instr.mapUpdate, run_underlying hm, MapKept.run_getObj_map h1, hc, run_findKey hk a2, hs]
  · obtain ⟨e, he⟩ : ∃ e, es[j]? = some e := ⟨es[j]'(by simpa using a3), Array.getElem?_eq_getElem _⟩
    have hek : e.key = .string k := by
      rw [Array.getElem?_toList, he] at a6
      simpa using a6
    refine ⟨.map (es.modify j fun e => { e with key := .string k, val := x }) clock, ?_, _, _, World.putObj_heap_same hlt, ?_, ?_⟩
    · simp [Instr.mapUpdate, run_underlying hm, MapKept.run_getObj_map h1, hc, run_findKey hk a2, hs, he, hek, run_keyThatStays (d := .string) (k := .string k) (by simp [IsKey])]
    · rw [a4 x]
      apply List.ext_getElem?
      intro q
      have h2q := congrArg (fun l => l[q]?) h2
      simp only [List.getElem?_map, Array.getElem?_toList] at h2q
      simp only [List.getElem?_map, Array.getElem?_toList, Array.getElem?_modify, List.getElem?_set]
      by_cases hq : j = q
      · subst hq
        have hjl : j < kvs.length := by
          have := congrArg List.length h2
          simp at this
          have := (Array.getElem?_eq_some_iff.1 he).1
          omega
        simp [he, hjl, kvV]
      · simp [hq, h2q]
    · refine stamped_modify h3 _ _ (fun _ _ => rfl) (fun e' _ he' => ?_)
      rw [he] at he'
      cases he'
      exact hek.symm
theorem Ms.delete {w : World} {r : Nat} {kvs : List KV} (h : Ms w r kvs) (k : ByteArray) (ty : TypeId) : ∃ o, (Builtin.delete_ #[mt, kt] ty #[.map (some r), .string k]).run P w = .ok (.tuple #[]) (w.putObj r o) ∧ Ms (w.putObj r o) r (delS kvs k) := by
  have hlt := h.lt
  obtain ⟨es, clock, h1, h2, h3⟩ := h
  have hc : ∀ e, (Instr.checkKey e 10000 kt (.string k)).run P w = .ok () w := fun e => run_checkKey (k := .string k) hk (by simp [IsKey]) e 9999
  have hs : ∀ o, (setObj r o).run P w = .ok () (w.putObj r o) := fun o => by simp [setObj, Sem.run, h1, World.putObj]
  rcases finds k kvs es.toList 0 h2 with ⟨a1, a2, a3, a4, a5⟩ | ⟨j, v, a1, a2, a3, a4, a5, a6⟩
  · refine ⟨.map es clock, ?_, _, _, World.putObj_heap_same hlt, by rw [a4]; exact h2, h3⟩
    simp [Builtin.delete_, run_underlying hm, MapKept.run_getObj_map h1, hc, run_findKey hk a2, hs]
  · refine ⟨.map (es.eraseIdxIfInBounds j) clock, ?_, _, _, World.putObj_heap_same hlt, ?_, stamped_erase h3 j⟩
    · simp [Builtin.delete_, run_underlying hm, MapKept.run_getObj_map h1, hc, run_findKey hk a2, hs]
    · rw [a5]
      have hj : j < es.size := by simpa using a3
      rw [Array.eraseIdxIfInBounds, dif_pos hj]
      rw [Array.toList_eraseIdx, map_erase, h2, map_erase]
omit hk in
theorem Ms.len {w : World} {r : Nat} {kvs : List KV} (h : Ms w r kvs) (ty : TypeId) : (Builtin.len_ #[mt] ty #[.map (some r)]).run P w = .ok (.int .i64 kvs.length) w := by
  obtain ⟨es, clock, h1, h2, h3⟩ := h
  have hl : es.size = kvs.length := by have := congrArg List.length h2; simpa using this
  simp [Builtin.len_, run_underlying hm, MapKept.run_getObj_map h1, hl, goInt]
end
end Go.Proofs.Ythfgblchlgodmaa
