/- A set of numbers as a map of the call's own; the iterator walk, as a range over it is told. Conditions: those of each theorem. -/
import Derived.Test.YtlglelgnpkdnbaaDqJ
import Derived.MapKept
import Derived.Test.YtlglelgnpkdnbaaRangeP
import Derived.WideMake
namespace Go.Proofs.Ytlglelgnpkdnbaa
open Go.RowKit Go.Shelf
set_option linter.unusedVariables false
attribute [local go_sem] Oper.semAt_some

/-- the map at r has the keys ks, each true -/
def Mp (w : World) (r : Nat) (ks : List Nat) : Prop := ∃ es clock, w.heap[r]? = some (.map es clock) ∧ es.toList.map (fun e => (e.key, e.val)) = ks.map (fun (k : Nat) => (Value.int .i64 (k : Int), Value.bool true))
theorem find_none (k : Nat) : ∀ (ks : List Nat) (es : List MapEntry) (i : Nat), es.map (fun e => (e.key, e.val)) = ks.map (fun (k : Nat) => (Value.int .i64 (k : Int), Value.bool true)) → k ∉ ks → Instr.findNow (.int .i64) (.int .i64 k) es i = some none
  | [], es, i, h, _ => by
    cases es with
    | nil => rfl
    | cons e es => simp at h
  | x :: ks, es, i, h, hk => by
    cases es with
    | nil => simp at h
    | cons e es =>
      simp only [List.map_cons, List.cons.injEq, Prod.mk.injEq] at h
      obtain ⟨⟨h1, _⟩, h2⟩ := h
      have hx : (((k : Int)) == (x : Int)) = false := by simp only [beq_eq_false_iff_ne, ne_eq, Int.natCast_inj]; exact fun e => hk (by rw [e]; simp)
      simp only [Instr.findNow, h1, Instr.sameNow, if_true, hx]
      exact find_none k ks es (i + 1) h2 (fun e => hk (by simp [e]))
theorem find_some (k : Nat) : ∀ (ks : List Nat) (es : List MapEntry) (i : Nat), es.map (fun e => (e.key, e.val)) = ks.map (fun (k : Nat) => (Value.int .i64 (k : Int), Value.bool true)) → k ∈ ks → ∃ j, Instr.findNow (.int .i64) (.int .i64 k) es i = some (some (j, .bool true))
  | [], es, i, h, hk => by cases hk
  | x :: ks, es, i, h, hk => by
    cases es with
    | nil => simp at h
    | cons e es =>
      simp only [List.map_cons, List.cons.injEq, Prod.mk.injEq] at h
      obtain ⟨⟨h1, h1'⟩, h2⟩ := h
      by_cases hx : k = x
      · have hb : (((k : Int)) == (x : Int)) = true := by simp [hx]
        exact ⟨i, by simp only [Instr.findNow, h1, h1', Instr.sameNow, if_true, hb]⟩
      · have hb : (((k : Int)) == (x : Int)) = false := by simp only [beq_eq_false_iff_ne, ne_eq, Int.natCast_inj]; exact hx
        obtain ⟨j, hj⟩ := find_some k ks es (i + 1) h2 (by rcases List.mem_cons.1 hk with e | e; exact absurd e hx; exact e)
        exact ⟨j, by simp only [Instr.findNow, h1, Instr.sameNow, if_true, hb]; exact hj⟩
theorem Mp.made (w : World) : Mp (w.alloc (.map #[] 0)) w.heap.size [] := ⟨#[], 0, World.alloc_heap_new w _, rfl⟩
theorem check_int (e : Bool) (k : Int) (w : World) : (Instr.checkKey e 10000 3 (.int .i64 k)).run Try.prog w = .ok () w := Go.MapKept.run_checkKey Try.underlying3 (by simp [Go.MapKept.IsKey]) e 9999
theorem Mp.lookup {w : World} {r : Nat} {ks : List Nat} (h : Mp w r ks) (k : Nat) : (Instr.lookup 64 (.map (some r)) (.int .i64 k) false).run Try.prog w = .ok (.bool (decide (k ∈ ks))) w := by
  obtain ⟨es, clock, h1, h2⟩ := h
  have hg : (getObj r).run Try.prog w = .ok (.map es clock) w := by simp [getObj, Sem.run, h1]
  by_cases hk : k ∈ ks
  · obtain ⟨j, hj⟩ := find_some k ks es.toList 0 h2 hk
    simp [Instr.lookup, run_underlying Try.underlying64, hg, check_int, Instr.findKey, run_underlying Try.underlying3, hj, hk]
  · have hj := find_none k ks es.toList 0 h2 hk
    simp [Instr.lookup, run_underlying Try.underlying64, hg, check_int, Instr.findKey, run_underlying Try.underlying3, hj, hk]
theorem Mp.update {w : World} {r : Nat} {ks : List Nat} (h : Mp w r ks) {k : Nat} (hk : k ∉ ks) : ∃ o, (Instr.mapUpdate 64 (.map (some r)) (.int .i64 k) (.bool true)).run Try.prog w = .ok () (w.putObj r o) ∧ Mp (w.putObj r o) r (ks ++ [k]) ∧ o.isCells = false := by
  obtain ⟨es, clock, h1, h2⟩ := h
  have hg : (getObj r).run Try.prog w = .ok (.map es clock) w := by simp [getObj, Sem.run, h1]
  have hj := find_none k ks es.toList 0 h2 hk
  have hr : r < w.heap.size := (Array.getElem?_eq_some_iff.1 h1).1
  refine ⟨.map (es.push { key := .int .i64 k, val := .bool true, born := clock }) (clock + 1), ?_, ⟨_, _, World.putObj_heap_same hr, by simp [h2]⟩, rfl⟩
  have hs : ∀ o, (setObj r o).run Try.prog w = .ok () (w.putObj r o) := fun o => by simp [setObj, Sem.run, h1, World.putObj]
  simp [Instr.mapUpdate, run_underlying Try.underlying64, hg, check_int, Instr.findKey, run_underlying Try.underlying3, hj, hs]
theorem Mp.len {w : World} {r : Nat} {ks : List Nat} (h : Mp w r ks) (ty : TypeId) : (Builtin.len_ #[64] ty #[.map (some r)]).run Try.prog w = .ok (.int .i64 ks.length) w := by
  obtain ⟨es, clock, h1, h2⟩ := h
  have hg : (getObj r).run Try.prog w = .ok (.map es clock) w := by simp [getObj, Sem.run, h1]
  have hl : es.size = ks.length := by have := congrArg List.length h2; simpa using this
  simp [Builtin.len_, run_underlying Try.underlying64, hg, hl, goInt]
theorem Mp.keep {w w' : World} {r : Nat} {ks : List Nat} (h : Mp w r ks) (hk : w'.heap[r]? = w.heap[r]?) : Mp w' r ks := by
  obtain ⟨es, clock, h1, h2⟩ := h
  exact ⟨es, clock, hk.trans h1, h2⟩

/-! the iterator walk, to the fore -/
theorem walk1_told (m : Nat) (b1 b2 : Nat) (n : Nat) (B0 : Nat) (w : World) (h1 : Blk w b1 3 #[.int .i64 n]) (h2 : Blk w b2 4 #[.bool false]) (hb1 : B0 ≤ b1) (hb2 : B0 ≤ b2) (hn : n ≤ 200000) :
    SeqToldP Fence.wide m Try.prog 44 #[.pointer (some ⟨b1, 0, none⟩), .pointer (some ⟨b2, 0, none⟩)] (fun (x : Nat) => #[.int .i64 x]) (fun pre x _ => x < n ∧ pre = List.range x) (KeepsCells B0) (fun xs => xs = List.range n) w := by
  intro lp J W hW hJ hY h0
  have c1 : W.cell? ⟨b1, 0, none⟩ = some (.int .i64 n) := (h1.below hW h1.lt).cell 0
  have c2 : W.cell? ⟨b2, 0, none⟩ = some (.bool false) := (h2.below hW h2.lt).cell 0
  refine callsIn_of_wp Try.func44 rfl trivial ?_ rfl
  simp only [Try.ntmps44, List.size_toArray, List.length_cons, List.length_nil, Nat.reduceAdd, Nat.reduceSub, Array.replicate_succ, Array.replicate_zero, List.push_toArray, List.append_toArray, List.nil_append, List.cons_append]
  gi_wp2_with fail
  gi_loopw [4, 6] (fun _ i wr => ∃ (t : Nat), i = .int .i64 t ∧ t ≤ n ∧ wr.cell? ⟨b1, 0, none⟩ = some (.int .i64 n) ∧ wr.cell? ⟨b2, 0, none⟩ = some (.bool false) ∧ J (List.range t) wr)
    (fun _ i _ => n - (intOf i).toNat)
  case atStart => exact ⟨0, rfl, by omega, c1, c2, h0⟩
  case round =>
    clear c1 c2
    obtain ⟨t, rfl, ht, c1, c2, h4⟩ := hrel
    by_cases htn : t < n
    · have htI : (t : Int) < (n : Int) := by omega
      obtain ⟨fn, tmps, assign, body, hy, hR⟩ := hY (List.range t) t wr h4 ⟨htn, rfl⟩
      have hw2 : IntKind.i64.wrap ((t : Int) + 1) = (t : Int) + 1 := IntWalk.i64_in _ (by omega)
      gi_wp2_with fail
      refine ⟨fun h => (by cases h), hR.mono ?_⟩
      rintro e W3 ⟨rfl, hJ3, hk3⟩
      have c1' := hk3.2 b1 0 _ hb1 c1
      have c2' := hk3.2 b2 0 _ hb2 c2
      gi_wp2_with fail
      go_roundw
      case rel => exact ⟨t + 1, by simp, by omega, c1', c2', by rw [List.range_succ]; exact hJ3⟩
      case measure => simp [intOf]; omega
    · have htI : ¬ (t : Int) < (n : Int) := by omega
      obtain rfl : t = n := by omega
      gi_wp2_with fail
      go_end0
      exact ⟨⟨_, rfl⟩, h4⟩
end Go.Proofs.Ytlglelgnpkdnbaa
