/- The walks of the document's Find, Drop, Same, New, Check (package taborref02). Conditions: those of each theorem. -/
import Derived.Test.YtaaaljpnhfmbpaaDkO
import Derived.BigQuiet
import Derived.Deep.QuietTactic
import Derived.Deep.RegionWith
import Derived.Deep.DeepMust
namespace Go.Proofs.Ytaaaljpnhfmbpaa
open Go.RowKit
set_option linter.unusedVariables false

def ofD (x : FD) : AF := ⟨x.1, ⟨x.2.1.toArray⟩, x.2.2⟩
theorem dvs_afs (l : FL) : dvs l = afs (l.map ofD) := by
  unfold dvs afs
  rw [List.flatMap_map]
  rfl
theorem Reads.dlen {w : World} {B n : Nat} {A : Option Addr} {l : FL} (h : Reads w B 3 A n (dvs l)) : l.length = n := by
  rw [dvs_afs] at h
  have := h.alen
  rw [List.length_map] at this
  exact this
theorem Reads.dat {w : World} {B n : Nat} {A : Option Addr} {l : FL} {k : Nat} (h : Reads w B 3 A n (dvs l)) (hk : k < n) : ∃ b o x, A = some ⟨b, o, none⟩ ∧ b < B ∧ l[k]? = some x ∧ w.cell? ⟨b, o + k * 3, none⟩ = some (.string x.1) ∧ w.cell? ⟨b, o + k * 3 + 1, none⟩ = some (.string ⟨x.2.1.toArray⟩) ∧ w.cell? ⟨b, o + k * 3 + 2, none⟩ = some (.int .i64 x.2.2) := by
  rw [dvs_afs] at h
  obtain ⟨b, o, x, e, hb, hx, h1, h2, h3⟩ := h.file hk
  rw [List.getElem?_map] at hx
  cases hl : l[k]? with
  | none => rw [hl] at hx; cases hx
  | some y =>
    rw [hl] at hx
    injection hx with hx
    subst hx
    exact ⟨b, o, y, e, hb, rfl, h1, h2, h3⟩
theorem str_eq (a b : ByteArray) : (a.toList == b.toList) = decide (a = b) := by
  simp only [ByteArray.toList_eq]
  by_cases h : a = b
  · subst h; simp
  · rw [decide_eq_false h]
    refine Bool.eq_false_iff.2 fun e => h (ba_ext (by simpa using e))
theorem take_snocD {α : Type} {l : List α} {t : Nat} {s : α} (hs : l[t]? = some s) : l.take (t + 1) = l.take t ++ [s] := by
  rw [List.take_add_one, hs]
  rfl
theorem findL_first {l : FL} {k : Nat} {x : FD} {name : ByteArray} (h : findL (l.take k) name = none) (hx : l[k]? = some x) (hn : x.1 = name) : findL l name = some x := by
  obtain ⟨hk, hx'⟩ := List.getElem?_eq_some_iff.1 hx
  have e : l = l.take k ++ x :: l.drop (k + 1) := by
    rw [← hx', List.getElem_cons_drop, List.take_append_drop]
  unfold findL at h ⊢
  rw [e, List.find?_append, h, List.find?_cons_of_pos (by simpa using hn)]
  rfl
theorem findL_snoc {l : FL} {k : Nat} {x : FD} {name : ByteArray} (h : findL (l.take k) name = none) (hx : l[k]? = some x) (hn : x.1 ≠ name) : findL (l.take (k + 1)) name = none := by
  unfold findL at h ⊢
  rw [take_snocD hx, List.find?_append, h, List.find?_cons_of_neg (by simpa using hn)]
  rfl

set_option maxHeartbeats 2000000 in
theorem rfind_any {A : Option Addr} {n c : Nat} {l : FL} {name : ByteArray} (w : World) (hr : Reads w w.heap.size 3 A n (dvs l)) (hn : n ≤ 100000) :
    Calls Try.prog 19 #[.slice A n c, .string name] w fun e w' => (∃ z : Int, e = .returned (.int .i64 z) ∧ ((findL l name = none ∧ z = -1) ∨ ∃ k x, z = (k : Nat) ∧ k < n ∧ l[k]? = some x ∧ x.1 = name ∧ findL l name = some x)) ∧ w = w' := by
  have HL := hide hr.dlen
  go_enter Try.func19, Try.ntmps19
  go_wp2_with fail
  go_loopw [5] (fun i wr => ∃ t : Nat, t ≤ n ∧ i = .int .i64 t ∧ findL (l.take t) name = none ∧ wr = w) (fun i _ => n - (intOf i).toNat)
  case atStart => exact ⟨0, by omega, rfl, rfl, rfl⟩
  case round =>
    obtain ⟨t, ht, rfl, hf, rfl⟩ := hrel
    have HF := hide hf
    clear hf
    by_cases htn : t < n
    · have htI : (t : Int) < (n : Int) := by omega
      have ht0 : (0 : Int) ≤ (t : Int) := by omega
      have hw2 : IntKind.i64.wrap ((t : Int) + 1) = (t : Int) + 1 := IntWalk.i64_in _ (by omega)
      obtain ⟨b, o, x, rfl, hb, hlx, k1, k2, k3⟩ := hr.dat htn
      have HX := hide hlx
      have hse := str_eq x.1 name
      clear hlx
      by_cases hx : x.1 = name
      · rw [decide_eq_true hx] at hse
        have HN := hide hx
        clear hx
        go_wp2_with fail
        go_ret
        exact ⟨⟨t, rfl, .inr ⟨t, x, rfl, htn, HX.out, HN.out, findL_first HF.out HX.out HN.out⟩⟩, rfl⟩
      · rw [decide_eq_false hx] at hse
        have HN := hide hx
        clear hx
        go_wp2_with fail
        go_roundw
        case rel => exact ⟨t + 1, by omega, by simp, findL_snoc HF.out HX.out HN.out, by first | rfl | trivial⟩
        case measure => simp [intOf]; omega
    · have htI : ¬ (t : Int) < (n : Int) := by omega
      go_wp2_with fail
      go_ret
      refine ⟨⟨-1, rfl, .inl ⟨?_, rfl⟩⟩, rfl⟩
      have := HF.out
      rw [List.take_of_length_le (by rw [HL.out]; omega)] at this
      exact this

theorem fileD_ok : ElemOk Try.prog 27 3 40 (.agg #[.string ⟨#[]⟩, .string ⟨#[]⟩, .int .i64 0]) := file_ok
theorem dvs_append (l m : FL) : dvs (l ++ m) = dvs l ++ dvs m := by simp [dvs]
theorem dvs_one (l : FL) : ∀ u ∈ dvs l, u.oneCell' = true := by
  intro u hu
  simp only [dvs, List.mem_flatMap] at hu
  obtain ⟨f, _, hu⟩ := hu
  simp at hu
  rcases hu with rfl | rfl | rfl <;> rfl
/-- a file that was just laid is read -/
theorem one_reads (w : World) (x : FD) : Reads (w.alloc (.cells #[.string x.1, .string ⟨x.2.1.toArray⟩, .int .i64 x.2.2] 27)) (w.heap.size + 1) 3 (some ⟨w.heap.size, 0, none⟩) 1 (dvs [x]) :=
  ⟨rfl, fun _ => ⟨w.heap.size, 0, rfl, by omega, fun j u hu => by
    have := (Blk.new w 27 #[.string x.1, .string ⟨x.2.1.toArray⟩, .int .i64 x.2.2]).cell j
    rw [Nat.zero_add]
    refine this.trans ?_
    rw [← hu]
    simp [dvs]⟩⟩
theorem dropL_snoc {l : FL} {k : Nat} {x : FD} {name : ByteArray} (hx : l[k]? = some x) : dropL (l.take (k + 1)) name = if x.1 = name then dropL (l.take k) name else dropL (l.take k) name ++ [x] := by
  unfold dropL
  rw [take_snocD hx, List.filter_append]
  by_cases h : x.1 = name
  · rw [if_pos h, List.filter_cons_of_neg (by simpa using h)]; simp
  · rw [if_neg h, List.filter_cons_of_pos (by simpa using h)]; simp
theorem dropL_len (l : FL) (name : ByteArray) : (dropL l name).length ≤ l.length := List.length_filter_le _ _

set_option maxHeartbeats 2000000 in
theorem rdrop_any {A : Option Addr} {n c : Nat} {l : FL} {name : ByteArray} (w : World) (hr : Reads w w.heap.size 3 A n (dvs l)) (hn : n ≤ 100000) :
    Calls Try.prog 43 #[.slice A n c, .string name] w fun e w' => ∃ v, e = .returned v ∧ w'.ownsRow w.heap.size 27 3 v (dropL l name).length (dvs (dropL l name)) ∧ Below w.heap.size w w' := by
  have HL := hide hr.dlen
  go_enter Try.func43, Try.ntmps43
  go_wp2_with fail
  go_loopw [5, 6] (fun out i wr => ∃ (t : Nat), t ≤ n ∧ i = .int .i64 t ∧ wr.ownsRow w.heap.size 27 3 out (dropL (l.take t) name).length (dvs (dropL (l.take t) name)) ∧ Below w.heap.size w wr) (fun _ i _ => n - (intOf i).toNat)
  case atStart => exact ⟨0, by omega, rfl, World.ownsRow_nil _ _ _ _, Below.refl _ _⟩
  case round =>
    obtain ⟨t, ht, rfl, hown, hbw⟩ := hrel
    by_cases htn : t < n
    · have htI : (t : Int) < (n : Int) := by omega
      have ht0 : (0 : Int) ≤ (t : Int) := by omega
      have hw2 : IntKind.i64.wrap ((t : Int) + 1) = (t : Int) + 1 := IntWalk.i64_in _ (by omega)
      obtain ⟨b, o, x, rfl, hb, hlx, k1, k2, k3⟩ := (hr.below hbw).dat htn
      have HX := hide (dropL_snoc (name := name) hlx)
      have hml : (dropL (l.take t) name).length ≤ 100000 := by
        have := dropL_len (l.take t) name
        rw [List.length_take] at this
        omega
      have hse := str_eq x.1 name
      clear hlx
      by_cases hx : x.1 = name
      · rw [decide_eq_true hx] at hse
        have HN := hide hx
        clear hx
        go_wp2_with fail
        go_roundw
        case rel => exact ⟨t + 1, by omega, by simp, by rw [HX.out, if_pos HN.out]; exact hown, hbw⟩
        case measure => simp [intOf]; omega
      · rw [decide_eq_false hx] at hse
        have HN := hide hx
        clear hx
        generalize dropL (l.take t) name = m at *
        have hone := one_reads wr x
        have hown1 : (wr.alloc (.cells #[.string x.1, .string ⟨x.2.1.toArray⟩, .int .i64 x.2.2] 27)).ownsRow w.heap.size 27 3 _ m.length (dvs m) := hown.alloc _
        have hb1 : Below w.heap.size w (wr.alloc (.cells #[.string x.1, .string ⟨x.2.1.toArray⟩, .int .i64 x.2.2] 27)) := hbw.alloc hbw.size _
        have hz1 : m.length + 1 ≤ maxLen := by unfold maxLen; omega
        have hz2 : (m.length + 1) * 40 ≤ 140737488355328 := by omega
        go_wp2_with (first
          | (at_builtin
             refine wpList_append (by rfl) (.tmp 20) (.tmp 25) 24 (by rfl) fileD_ok Try.underlying24 hown1 (by rfl) hone (by rfl) (dvs_one [x]) hz1 hz2 hb1.size ?_
             intro v2 w2 hown2 hb2 _ _
             rw [← dvs_append] at hown2)
          | fail)
        go_roundw
        case rel => exact ⟨t + 1, by omega, by simp, by rw [HX.out, if_neg HN.out, List.length_append]; exact hown2, hb1.trans hb2⟩
        case measure => simp [intOf]; omega
    · have htI : ¬ (t : Int) < (n : Int) := by omega
      rw [List.take_of_length_le (by rw [HL.out]; omega)] at hown
      go_wp2_with fail
      go_ret
      exact ⟨_, rfl, hown, hbw⟩

theorem rnew_any {A : Option Addr} {n c : Nat} (w : World) :
    Calls Try.prog 27 #[.slice A n c] w fun e w' => e = .returned (.agg #[.slice A n c, .int .i64 0, .int .i64 (-1)]) ∧ Below w.heap.size w w' := by
  have hb := ((Below.refl w.heap.size w).alloc (Nat.le_refl _) (.cells #[.slice none 0 0, .int .i64 0, .int .i64 0] 51))
  go_enter Try.func27, Try.ntmps27
  go_wp2_with fail
  have hbk := Blk.new w 51 #[.slice A n c, .int .i64 0, .int .i64 (-1)]
  exact bodyPost_cell Try.results27 (g := w.heap.size) rfl hbk Try.underlying51 rfl (by kernel_rfl) rfl ⟨rfl, (Below.refl w.heap.size w).alloc (Nat.le_refl _) _⟩

theorem eq_file (n n' b b' : ByteArray) (z z' : Int) (w : World) : (Op.equalIn 10000 27 (.agg #[.string n, .string b, .int .i64 z]) (.agg #[.string n', .string b', .int .i64 z'])).run Try.prog w = .ok (n.toList == n'.toList && b.toList == b'.toList && z == z') w := by
  have u3 := Try.underlying3
  have a3 := Try.isAgg3
  have z3 := Try.sizeOf3
  have u9 := Try.underlying9
  have a9 := Try.isAgg9
  have z9 := Try.sizeOf9
  have hS : Try.prog.underlying 27 = some (.struct (Try.prog.fieldsOf 27)) := by kernel_rfl
  have hp : Try.prog.stoodInHeld 27 = false := by kernel_rfl
  rw [show (10000 : Nat) = 9999 + 1 from rfl, run_equalIn_agg w 9999 27 _ _ hS hp]
  simp only [Program.fieldsOf, Try.underlying27]
  go_simp
  cases h1 : n.toList == n'.toList <;> cases h2 : b.toList == b'.toList <;> cases h3 : z == z' <;> simp_all
theorem neq_file_same (n b : ByteArray) (z : Int) (w : World) : (binOp .neq 27 (.agg #[.string n, .string b, .int .i64 z]) (.agg #[.string n, .string b, .int .i64 z])).run Try.prog w = .ok (.bool false) w := by
  rw [run_neq_struct, eq_file]
  simp
set_option maxHeartbeats 2000000 in
theorem rsame_yes {A A' : Option Addr} {n c c' : Nat} {l : List AF} (w : World) (hr : Reads w w.heap.size 3 A n (afs l)) (hr' : Reads w w.heap.size 3 A' n (afs l)) (hn : n ≤ 1000000) :
    Calls Try.prog 17 #[.slice A n c, .slice A' n c'] w fun e w' => e = .returned (.bool true) ∧ Below w.heap.size w w' := by
  have hnn : ((n : Int) != (n : Int)) = false := by simp
  go_enter Try.func17, Try.ntmps17
  go_wp2_with fail
  go_loopw [5] (fun i wr => ∃ t : Nat, t ≤ n ∧ i = .int .i64 t ∧ Below w.heap.size w wr) (fun i _ => n - (intOf i).toNat)
  case atStart => exact ⟨0, by omega, rfl, Below.refl _ _⟩
  case round =>
    obtain ⟨t, ht, rfl, hbw⟩ := hrel
    by_cases htn : t < n
    · have htI : (t : Int) < (n : Int) := by omega
      have ht0 : (0 : Int) ≤ (t : Int) := by omega
      have hw2 : IntKind.i64.wrap ((t : Int) + 1) = (t : Int) + 1 := IntWalk.i64_in _ (by omega)
      obtain ⟨b, o, x, rfl, hb, hlx, k1, k2, k3⟩ := (hr.below hbw).file htn
      obtain ⟨b', o', x', rfl, hb', hlx', k1', k2', k3'⟩ := (hr'.below hbw).file htn
      obtain rfl : x = x' := by rw [hlx] at hlx'; injection hlx'
      have hq := fun w => neq_file_same x.name x.b x.sy w
      go_wp2_with fail
      go_quiet (fail)
      go_wp2_with fail
      go_roundw
      case rel => exact ⟨t + 1, by omega, by simp, below_drewN hbw _⟩
      case measure => simp [intOf]; omega
    · have htI : ¬ (t : Int) < (n : Int) := by omega
      go_wp2_with fail
      go_ret
      exact ⟨rfl, hbw⟩
end Go.Proofs.Ytaaaljpnhfmbpaa
