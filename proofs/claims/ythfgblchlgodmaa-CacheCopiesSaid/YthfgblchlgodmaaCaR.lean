/- The walks of the document's Find, drop, with, room (package taborref21). Conditions: those of each theorem. -/
import Derived.Test.YthfgblchlgodmaaCaQ
import Derived.Test.YthfgblchlgodmaaTx
import Derived.BigQuiet
import Derived.Deep.QuietTactic
import Derived.Deep.RegionWith
import Derived.Deep.DeepMust
namespace Go.Proofs.Ythfgblchlgodmaa
open Go.RowKit
set_option linter.unusedVariables false

theorem ent_ok : ElemOk Try.prog 49 2 32 (.agg #[.string ⟨#[]⟩, .string ⟨#[]⟩]) := elemOk (by kernel_rfl) rfl (by decide)
theorem str_eq (a b : ByteArray) : (a.toList == b.toList) = decide (a = b) := by
  simp only [ByteArray.toList_eq]
  by_cases h : a = b
  · subst h; simp
  · rw [decide_eq_false h]
    refine Bool.eq_false_iff.2 fun e => h (ba_ext (by simpa using e))
theorem take_snocD {α : Type} {l : List α} {t : Nat} {s : α} (hs : l[t]? = some s) : l.take (t + 1) = l.take t ++ [s] := by
  rw [List.take_add_one, hs]
  rfl
theorem findL_first {l : EL} {k : Nat} {x : ED} {name : ByteArray} (h : findL (l.take k) name = none) (hx : l[k]? = some x) (hn : x.1 = name) : findL l name = some x := by
  obtain ⟨hk, hx'⟩ := List.getElem?_eq_some_iff.1 hx
  have e : l = l.take k ++ x :: l.drop (k + 1) := by
    rw [← hx', List.getElem_cons_drop, List.take_append_drop]
  unfold findL at h ⊢
  rw [e, List.find?_append, h, List.find?_cons_of_pos (by simpa using hn)]
  rfl
theorem findL_snoc {l : EL} {k : Nat} {x : ED} {name : ByteArray} (h : findL (l.take k) name = none) (hx : l[k]? = some x) (hn : x.1 ≠ name) : findL (l.take (k + 1)) name = none := by
  unfold findL at h ⊢
  rw [take_snocD hx, List.find?_append, h, List.find?_cons_of_neg (by simpa using hn)]
  rfl

theorem dropL_snoc {l : EL} {k : Nat} {x : ED} {name : ByteArray} (hx : l[k]? = some x) : dropL (l.take (k + 1)) name = if x.1 = name then dropL (l.take k) name else dropL (l.take k) name ++ [x] := by
  unfold dropL
  rw [take_snocD hx, List.filter_append]
  by_cases h : x.1 = name
  · rw [if_pos h, List.filter_cons_of_neg (by simpa using h)]; simp
  · rw [if_neg h, List.filter_cons_of_pos (by simpa using h)]; simp
theorem dropL_len (l : EL) (name : ByteArray) : (dropL l name).length ≤ l.length := List.length_filter_le _ _

theorem own_base2 {w : World} {B B' : Nat} {e : TypeId} {size : Nat} {v : Value} {n : Nat} {xs : List Value} (h : w.ownsRow B' e size v n xs) (hB : B ≤ B') : w.ownsRow B e size v n xs := by
  obtain ⟨h1, h2⟩ := h
  refine ⟨h1, ?_⟩
  rcases h2 with h2 | ⟨g, cap, cur, a, b, c⟩
  · exact .inl h2
  · exact .inr ⟨g, cap, cur, a, Nat.le_trans hB b, c⟩
theorem own_sliceN {w : World} {B : Nat} {e : TypeId} {size : Nat} {v : Value} {n : Nat} {xs : List Value} (h : w.ownsRow B e size v n xs) : ∃ A n c, v = .slice A n c := by
  rcases h.2 with ⟨e1, e2⟩ | ⟨g', cap', cur, hv, _⟩
  · exact ⟨_, _, _, e1⟩
  · exact ⟨_, _, _, hv⟩
theorem own_len2 {w : World} {base : Nat} {e : TypeId} {size n m c : Nat} {A : Option Addr} {xs : List Value} (h : w.ownsRow base e size (.slice A m c) n xs) : m = n := by
  rcases h.2 with ⟨h1, h2⟩ | ⟨g, cap, cur, hv, _⟩
  · injection h1 with _ e2 _; omega
  · injection hv with _ e2 _
theorem own_cap {w : World} {base : Nat} {e : TypeId} {size n c : Nat} {A : Option Addr} {xs : List Value} (h : w.ownsRow base e size (.slice A n c) n xs) : n ≤ c := by
  rcases h.2 with ⟨h1, h2⟩ | ⟨g, cap, cur, hv, _, _, h3, _⟩
  · omega
  · injection hv with e1 e2 e3; omega
theorem Reads.of_own2 {w : World} {base : Nat} {e : TypeId} {A : Option Addr} {n c : Nat} {xs : List Value} (h : w.ownsRow base e 2 (.slice A n c) n xs) : Reads w w.heap.size 2 A n xs := by
  refine ⟨h.1, fun hn => ?_⟩
  obtain ⟨g, cap, hv, _, hlt⟩ := h.form hn
  injection hv with e1 e2 e3
  subst e1
  refine ⟨g, 0, rfl, (h.lt g rfl).2, fun j u hu => ?_⟩
  have := h.cells (g := g) rfl j u hu
  rwa [add_lit] at this
theorem Reads.front2 {w : World} {B n : Nat} {A : Option Addr} {xs : List Value} (h : Reads w B 2 A n xs) {m : Nat} (hm : m ≤ n) : Reads w B 2 A m (xs.take (m * 2)) := by
  have hl := h.1
  refine ⟨by rw [List.length_take]; omega, fun h0 => ?_⟩
  obtain ⟨b, o, e, hb, hc⟩ := h.2 (by omega)
  refine ⟨b, o, e, hb, fun j u hu => hc j u ?_⟩
  rw [List.getElem?_take] at hu
  split at hu
  · exact hu
  · cases hu
theorem one_reads (w : World) (x : ED) : Reads (w.alloc (.cells #[.string x.1, .string x.2] 49)) (w.heap.size + 1) 2 (some ⟨w.heap.size, 0, none⟩) 1 (evs [x]) :=
  ⟨rfl, fun _ => ⟨w.heap.size, 0, rfl, by omega, fun j u hu => by
    have := (Blk.new w 49 #[.string x.1, .string x.2]).cell j
    rw [Nat.zero_add]
    refine this.trans ?_
    rw [← hu]
    simp [evs]⟩⟩
theorem evs_one' (l : EL) : ∀ u ∈ evs l, u.oneCell' = true := evs_one l

def findV : Option ED → Value
  | none => .tuple #[.string ⟨#[]⟩, .bool false]
  | some x => .tuple #[.string x.2, .bool true]
set_option maxHeartbeats 2000000 in
theorem rfind_any {A : Option Addr} {n c : Nat} {l : EL} {name : ByteArray} (w : World) (hr : Reads w w.heap.size 2 A n (evs l)) (hn : n ≤ 100000) :
    Calls Try.prog 14 #[.slice A n c, .string name] w fun e w' => e = .returned (findV (findL l name)) ∧ w = w' := by
  have HL := hide hr.elen
  go_enter Try.func14, Try.ntmps14
  go_wp2_with fail
  go_loopw [6] (fun i wr => ∃ t : Nat, t ≤ n ∧ i = .int .i64 t ∧ findL (l.take t) name = none ∧ wr = w) (fun i _ => n - (intOf i).toNat)
  case atStart => exact ⟨0, by omega, rfl, rfl, rfl⟩
  case round =>
    obtain ⟨t, ht, rfl, hf, rfl⟩ := hrel
    have HF := hide hf
    clear hf
    by_cases htn : t < n
    · have htI : (t : Int) < (n : Int) := by omega
      have ht0 : (0 : Int) ≤ (t : Int) := by omega
      have hw2 : IntKind.i64.wrap ((t : Int) + 1) = (t : Int) + 1 := IntWalk.i64_in _ (by omega)
      obtain ⟨b, o, x, rfl, hb, hlx, k1, k2⟩ := hr.ent htn
      have HX := hide hlx
      have hse := str_eq x.1 name
      clear hlx
      by_cases hx : x.1 = name
      · rw [decide_eq_true hx] at hse
        have HN := hide hx
        clear hx
        go_wp2_with fail
        go_ret2
        rw [findL_first HF.out HX.out HN.out]
        exact ⟨rfl, rfl⟩
      · rw [decide_eq_false hx] at hse
        have HN := hide hx
        clear hx
        go_wp2_with fail
        go_roundw
        case rel => exact ⟨t + 1, by omega, by simp, findL_snoc HF.out HX.out HN.out, by first | rfl | trivial⟩
        case measure => simp [intOf]; omega
    · have htI : ¬ (t : Int) < (n : Int) := by omega
      go_wp2_with fail
      go_ret2
      have h := HF.out
      rw [List.take_of_length_le (by rw [HL.out]; omega)] at h
      rw [h]
      exact ⟨rfl, rfl⟩

set_option maxHeartbeats 2000000 in
theorem rdrop_any {A : Option Addr} {n c : Nat} {l : EL} {name : ByteArray} (w : World) (hr : Reads w w.heap.size 2 A n (evs l)) (hn : n ≤ 100000) :
    Calls Try.prog 43 #[.slice A n c, .string name] w fun e w' => ∃ v, e = .returned v ∧ w'.ownsRow w.heap.size 49 2 v (dropL l name).length (evs (dropL l name)) ∧ Below w.heap.size w w' := by
  have HL := hide hr.elen
  go_enter Try.func43, Try.ntmps43
  go_wp2_with fail
  go_loopw [5, 6] (fun out i wr => ∃ (t : Nat), t ≤ n ∧ i = .int .i64 t ∧ wr.ownsRow w.heap.size 49 2 out (dropL (l.take t) name).length (evs (dropL (l.take t) name)) ∧ Below w.heap.size w wr) (fun _ i _ => n - (intOf i).toNat)
  case atStart => exact ⟨0, by omega, rfl, World.ownsRow_nil _ _ _ _, Below.refl _ _⟩
  case round =>
    obtain ⟨t, ht, rfl, hown, hbw⟩ := hrel
    by_cases htn : t < n
    · have htI : (t : Int) < (n : Int) := by omega
      have ht0 : (0 : Int) ≤ (t : Int) := by omega
      have hw2 : IntKind.i64.wrap ((t : Int) + 1) = (t : Int) + 1 := IntWalk.i64_in _ (by omega)
      obtain ⟨b, o, x, rfl, hb, hlx, k1, k2⟩ := (hr.below hbw).ent htn
      have HX := hide (dropL_snoc (name := name) hlx)
      have hml : (dropL (l.take t) name).length ≤ 100000 := by
        have := dropL_len (l.take t) name
        rw [List.length_take] at this
        omega
      have hse := str_eq x.1 name
      clear hlx
      by_cases hx : x.1 = name
      · rw [decide_eq_true hx] at hse
        have HN := hide hx
        clear hx
        go_wp2_with fail
        go_roundw
        case rel => exact ⟨t + 1, by omega, by simp, by rw [HX.out, if_pos HN.out]; exact hown, hbw⟩
        case measure => simp [intOf]; omega
      · rw [decide_eq_false hx] at hse
        have HN := hide hx
        clear hx
        generalize dropL (l.take t) name = m at *
        have hone := one_reads wr x
        have hown1 : (wr.alloc (.cells #[.string x.1, .string x.2] 49)).ownsRow w.heap.size 49 2 _ m.length (evs m) := hown.alloc _
        have hb1 : Below w.heap.size w (wr.alloc (.cells #[.string x.1, .string x.2] 49)) := hbw.alloc hbw.size _
        have hz1 : m.length + 1 ≤ maxLen := by unfold maxLen; omega
        have hz2 : (m.length + 1) * 32 ≤ 140737488355328 := by omega
        go_wp2_with (first
          | (at_builtin
             refine wpList_append (by rfl) (.tmp 20) (.tmp 25) 28 (by rfl) ent_ok Try.underlying28 hown1 (by rfl) hone (by rfl) (evs_one [x]) hz1 hz2 hb1.size ?_
             intro v2 w2 hown2 hb2 _ _
             rw [← evs_append] at hown2)
          | fail)
        go_roundw
        case rel => exact ⟨t + 1, by omega, by simp, by rw [HX.out, if_neg HN.out, List.length_append]; exact hown2, hb1.trans hb2⟩
        case measure => simp [intOf]; omega
    · have htI : ¬ (t : Int) < (n : Int) := by omega
      rw [List.take_of_length_le (by rw [HL.out]; omega)] at hown
      go_wp2_with fail
      go_ret
      exact ⟨_, rfl, hown, hbw⟩


theorem evs_take (l : EL) (t : Nat) : (evs l).take (t * 2) = evs (l.take t) := by
  induction l generalizing t with
  | nil => simp [evs]
  | cons x l ih =>
    cases t with
    | zero => simp [evs]
    | succ t =>
      have e : evs (x :: l) = [.string x.1, .string x.2] ++ evs l := rfl
      rw [e, show (t + 1) * 2 = 2 + t * 2 by omega, List.take_append, List.take_of_length_le (by simp)]
      show _ ++ (evs l).take (2 + t * 2 - 2) = _
      rw [Nat.add_sub_cancel_left, ih]
      rfl
theorem evs_drop (l : EL) (t : Nat) : (evs l).drop (t * 2) = evs (l.drop t) := by
  induction l generalizing t with
  | nil => simp [evs]
  | cons x l ih =>
    cases t with
    | zero => simp [evs]
    | succ t =>
      have e : evs (x :: l) = [.string x.1, .string x.2] ++ evs l := rfl
      rw [e, show (t + 1) * 2 = 2 + t * 2 by omega, List.drop_append, List.drop_of_length_le (by simp)]
      show [] ++ (evs l).drop (2 + t * 2 - 2) = _
      rw [Nat.add_sub_cancel_left, ih]
      rfl
theorem Reads.back2 {w : World} {B n g o : Nat} {xs : List Value} (h : Reads w B 2 (some ⟨g, o, none⟩) n xs) {t : Nat} (ht : t ≤ n) : Reads w B 2 (some ⟨g, o + t * 2, none⟩) (n - t) (xs.drop (t * 2)) := by
  have hl := h.1
  refine ⟨by rw [List.length_drop]; omega, fun h0 => ?_⟩
  obtain ⟨b, q, e, hb, hc⟩ := h.2 (by omega)
  injection e with e
  injection e with e1 e2 _
  subst e1 e2
  refine ⟨g, o + t * 2, rfl, hb, fun j u hu => ?_⟩
  rw [List.getElem?_drop] at hu
  have := hc _ _ hu
  rw [Nat.add_assoc]
  exact this
theorem while_split {p : ED → Bool} {l : EL} {t : Nat} (h1 : ∀ y ∈ l.take t, p y = true) (h2 : ∀ y, l[t]? = some y → p y = false) : l.takeWhile p = l.take t ∧ l.dropWhile p = l.drop t := by
  induction l generalizing t with
  | nil => simp
  | cons x l ih =>
    cases t with
    | zero =>
      have := h2 x rfl
      rw [List.takeWhile_cons_of_neg (by simp [this]), List.dropWhile_cons_of_neg (by simp [this])]
      exact ⟨rfl, rfl⟩
    | succ t =>
      have hx := h1 x (by simp)
      rw [List.takeWhile_cons_of_pos hx, List.dropWhile_cons_of_pos hx]
      obtain ⟨i1, i2⟩ := ih (t := t) (fun y hy => h1 y (by simp [hy])) (fun y hy => h2 y (by simpa using hy))
      rw [i1, i2]
      exact ⟨rfl, rfl⟩

set_option maxHeartbeats 8000000 in
set_option maxRecDepth 20000 in
theorem rwith_any {A : Option Addr} {n c : Nat} {l : EL} {x : ED} (w : World) (hr : Reads w w.heap.size 2 A n (evs l)) (hn : n ≤ 50000) :
    Calls Try.prog 42 #[.slice A n c, .agg #[.string x.1, .string x.2]] w fun e w' => ∃ v, e = .returned v ∧ w'.ownsRow w.heap.size 49 2 v (withL l x).length (evs (withL l x)) ∧ Below w.heap.size w w' := by
  have HL := hide hr.elen
  have hk0 := Blk.new w 49 #[.string x.1, .string x.2]
  have hb0 : Below w.heap.size w (w.alloc (.cells #[.string x.1, .string x.2] 49)) := (Below.refl _ w).alloc (Nat.le_refl _) _
  go_enter Try.func42, Try.ntmps42
  go_upto_region 1 with (fail)
  obtain ⟨fb, hfb⟩ : ∃ fb, fb = w.heap.size := ⟨_, rfl⟩
  rw [← hfb] at hk0
  simp only [← hfb]
  have HFB := hide hfb
  clear hfb
  generalize w.alloc (.cells #[.string x.1, .string x.2] 49) = w1 at *
  have q0 : w1.cell? ⟨fb, 0, none⟩ = some (.string x.1) := hk0.cell 0
  have hDr := hide (rdrop_any (c := c) (name := x.1) w1 ((hr.below hb0).more hb0.size) (by omega))
  go_upto_region 2 with (first
    | (go_at_call 43
       go_must (
       refine hDr.out.mono ?_
       rintro e w2 ⟨v2, rfl, hown2, hb2⟩
       obtain ⟨A2, m2, c2, rfl⟩ := own_sliceN hown2
       have HM2 : Hid (m2 = (dropL l x.1).length) := own_len2 hown2
       have HC2 : Hid (m2 ≤ c2) := by
         show _ ≤ _
         have h := hown2
         rw [← HM2.out] at h
         exact own_cap h))
    | fail)
  have hk2 := hk0.below hb2 hk0.lt
  have hbw2 := hb0.trans (hb2.mono hb0.size)
  rw [← HM2.out] at hown2
  have hrd := Reads.of_own2 hown2
  have HSN : Hid (∀ ad, A2 = some ad → ad.spot = none) := fun ad e => by
    subst e
    rcases hown2.2 with ⟨h1, _⟩ | ⟨g', cap', cur', hv', _⟩
    · cases h1
    · injection hv' with e1 _ _
      injection e1 with e1
      rw [e1]
  have hml : m2 ≤ 50000 := by
    have := dropL_len l x.1
    rw [HL.out] at this
    rw [HM2.out]
    omega
  have hc2I : (m2 : Int) ≤ (c2 : Int) := by have := HC2.out; omega
  have HX : Hid (withL l x = (dropL l x.1).takeWhile (fun y => decide (NLt y.1 x.1)) ++ x :: (dropL l x.1).dropWhile (fun y => decide (NLt y.1 x.1))) := rfl
  clear hr hk0 hb0 hDr q0 hown2 hb2
  generalize dropL l x.1 = R at *
  go_wp2_with fail
  go_loopw [6] (fun i wr => ∃ t k : Nat, t ≤ m2 ∧ i = .int .i64 t ∧ (∀ y ∈ R.take t, decide (NLt y.1 x.1) = true) ∧ wr = w2.drewN k) (fun i _ => m2 - (intOf i).toNat)
  case atStart => exact ⟨0, 0, by omega, rfl, fun y hy => by simp at hy, rfl⟩
  case round =>
    obtain ⟨t, k, ht, rfl, hall, rfl⟩ := hrel
    have HALL := hide hall
    clear hall
    have q0 : w2.cell? ⟨fb, 0, none⟩ = some (.string x.1) := hk2.cell 0
    by_cases htn : t < m2
    · have htI : (t : Int) < (m2 : Int) := by omega
      have htd : decide ((t : Int) < (m2 : Int)) = true := decide_eq_true htI
      have ht0' : (0 : Int) ≤ (t : Int) := by omega
      have hw2 : IntKind.i64.wrap ((t : Int) + 1) = (t : Int) + 1 := IntWalk.i64_in _ (by omega)
      obtain ⟨b, o, y, rfl, hb, hly, k1, k2⟩ := hrd.ent htn
      have HLY := hide hly
      have hls := less_eq y.1 x.1
      clear hly
      by_cases hlt : NLt y.1 x.1
      · rw [decide_eq_true hlt] at hls
        have HLT := hide hlt
        clear hlt
        go_wp2_with fail
        go_quiet (fail)
        go_wp2_with fail
        go_roundw
        case rel => exact ⟨t + 1, k + nq, by omega, by simp, fun z hz => by
          rw [take_snocD HLY.out] at hz
          rcases List.mem_append.1 hz with hz | hz
          · exact HALL.out z hz
          · rw [List.mem_singleton.1 hz]; exact decide_eq_true HLT.out, by rfl⟩
        case measure => simp [intOf]; omega
      · rw [decide_eq_false hlt] at hls
        have HLT := hide hlt
        clear hlt
        go_wp2_with fail
        go_quiet (fail)
        have HSP : Hid (R.takeWhile (fun y => decide (NLt y.1 x.1)) = R.take t ∧ R.dropWhile (fun y => decide (NLt y.1 x.1)) = R.drop t) := while_split HALL.out (fun z hz => by
          rw [HLY.out] at hz
          injection hz with hz
          subst hz
          exact decide_eq_false HLT.out)
        clear hls k1 k2 htd ht0'
        go_upto_region 5 with (fail)
        have hkW : Blk (((w2.drewN k).drewN nq)) fb 49 #[.string x.1, .string x.2] := hk2
        have hrW : Reads (((w2.drewN k).drewN nq)) (((w2.drewN k).drewN nq)).heap.size 2 (some ⟨b, o, none⟩) m2 (evs R) := hrd
        have hbW : Below w.heap.size w (((w2.drewN k).drewN nq)) := below_drewN (below_drewN hbw2 _) _
        clear hk2 hrd hbw2 q0
        generalize ((w2.drewN k).drewN nq) = W at *
        have hown0 : (W.alloc (.cells #[] 49)).ownsRow W.heap.size 49 2 (.slice (some ⟨W.heap.size, 0, none⟩) 0 0) 0 [] := World.ownsRow_made W #[] 0 (Nat.le_refl _) (by decide) rfl
        have hbA : Below W.heap.size W (W.alloc (.cells #[] 49)) := (Below.refl _ W).alloc (Nat.le_refl _) _
        have hf0 : Reads (W.alloc (.cells #[] 49)) W.heap.size 2 (some ⟨b, o, none⟩) t (evs (R.take t)) := by
          rw [← evs_take]
          exact (hrW.front2 ht).below hbA
        have hback : Reads W W.heap.size 2 (some ⟨b, o + t * 2, none⟩) (m2 - t) (evs (R.drop t)) := by
          rw [← evs_drop]
          exact hrW.back2 ht
        have hz1 : 0 + t ≤ maxLen := by unfold maxLen; omega
        have hz2 : (0 + t) * 32 ≤ 140737488355328 := by omega
        have hz3 : t + 1 ≤ maxLen := by unfold maxLen; omega
        have hz4 : (t + 1) * 32 ≤ 140737488355328 := by omega
        have hz5 : t + 1 + (m2 - t) ≤ maxLen := by unfold maxLen; omega
        have hz6 : (t + 1 + (m2 - t)) * 32 ≤ 140737488355328 := by omega
        have ht0 : (0 : Int) ≤ (t : Int) := by omega
        have htm : (t : Int) ≤ (m2 : Int) := by omega
        have htc : (t : Int) ≤ (c2 : Int) := by omega
        have hsub : ((m2 : Int) - (t : Int)).toNat = (m2 - t) := by omega
        have hkA := hkW.below hbA hkW.lt
        have qa := hkA.cell 0
        go_upto_region 6 with (first
          | (at_builtin
             go_must (refine wpList_append (by rfl) (.tmp 28) (.tmp 31) 28 (by rfl) ent_ok Try.underlying28 hown0 (by rfl) hf0 (by rfl) (evs_one _) hz1 hz2 (by simp) ?_)
             intro v5 w5 hown5 hb5 _ _)
          | fail)
        rw [Nat.zero_add, List.nil_append] at hown5
        have hb5' : Below W.heap.size W w5 := hbA.trans hb5
        have hk5 := hkW.below hb5' hkW.lt
        have hback5 := hback.below hb5'
        have p0 : w5.cell? ⟨fb, 0, none⟩ = some (.string x.1) := hk5.cell 0
        have p1 : w5.cell? ⟨fb, 1, none⟩ = some (.string x.2) := hk5.cell 1
        have hone := one_reads w5 x
        have hown6 := hown5.alloc (.cells #[.string x.1, .string x.2] 49)
        have hb6 : Below W.heap.size W (w5.alloc (.cells #[.string x.1, .string x.2] 49)) := hb5'.alloc hb5'.size _
        clear hown0 hf0 hback hkW hkA qa hb5 hrW hbA
        go_upto_region 7 with (first
          | (at_builtin
             refine wpList_append (by rfl) (.tmp 33) (.tmp 35) 28 (by rfl) ent_ok Try.underlying28 hown6 (by rfl) hone (by rfl) (evs_one _) hz3 hz4 hb6.size ?_
             intro v7 w7 hown7 hb7 _ _)
          | fail)
        rw [← evs_append] at hown7
        have hb7' : Below W.heap.size W w7 := hb6.trans hb7
        have hback7 := hback5.below (hb6.trans hb7 |> fun h => (Below.refl _ w5).alloc (by have := hb5'.size; omega) (.cells #[.string x.1, .string x.2] 49) |>.trans hb7)
        clear hown5 hown6 hone hback5 hk5 p0 p1 hb6 hb7
        go_wp2_with (first
          | (at_builtin
             refine wpList_append (by rfl) (.tmp 37) (.tmp 40) 28 (by rfl) ent_ok Try.underlying28 hown7 (by rfl) hback7 (by rfl) (evs_one _) hz5 hz6 hb7'.size ?_
             intro v8 w8 hown8 hb8 _ _
             rw [← evs_append] at hown8)
          | fail)
        go_ret
        have he : withL l x = R.take t ++ [x] ++ R.drop t := by
          rw [HX.out, HSP.out.1, HSP.out.2, List.append_assoc]
          rfl
        refine ⟨_, rfl, ?_, hbW.trans ((hb7'.trans hb8).mono hbW.size)⟩
        rw [he]
        have hle : (R.take t ++ [x] ++ R.drop t).length = t + 1 + (m2 - t) := by
          simp only [List.length_append, List.length_take, List.length_drop, List.length_cons, List.length_nil]
          rw [← HM2.out]
          omega
        rw [hle]
        exact own_base2 hown8 hbW.size
    · have htI : ¬ (t : Int) < (m2 : Int) := by omega
      have htd : decide ((t : Int) < (m2 : Int)) = false := decide_eq_false htI
      have HSP : Hid (R.takeWhile (fun y => decide (NLt y.1 x.1)) = R.take t ∧ R.dropWhile (fun y => decide (NLt y.1 x.1)) = R.drop t) := while_split HALL.out (fun z hz => by
        rw [List.getElem?_eq_none (by rw [← HM2.out]; omega)] at hz
        cases hz)
      obtain rfl : m2 = t := by omega
      rcases A2 with _ | ⟨b, o, sp⟩
      · go_wp2_with fail
        go_quiet (fail)
        go_upto_region 5 with (fail)
        have hkW : Blk (((w2.drewN k).drewN nq)) fb 49 #[.string x.1, .string x.2] := hk2
        have hrW : Reads (((w2.drewN k).drewN nq)) (((w2.drewN k).drewN nq)).heap.size 2 none m2 (evs R) := hrd
        have hbW : Below w.heap.size w (((w2.drewN k).drewN nq)) := below_drewN (below_drewN hbw2 _) _
        clear hk2 hrd hbw2 q0
        generalize ((w2.drewN k).drewN nq) = W at *
        have hown0 : (W.alloc (.cells #[] 49)).ownsRow W.heap.size 49 2 (.slice (some ⟨W.heap.size, 0, none⟩) 0 0) 0 [] := World.ownsRow_made W #[] 0 (Nat.le_refl _) (by decide) rfl
        have hbA : Below W.heap.size W (W.alloc (.cells #[] 49)) := (Below.refl _ W).alloc (Nat.le_refl _) _
        have hf0 : Reads (W.alloc (.cells #[] 49)) W.heap.size 2 none m2 (evs (R.take m2)) := by
          rw [← evs_take]
          exact (hrW.front2 ht).below hbA
        have hback : Reads W W.heap.size 2 none 0 (evs (R.drop m2)) := by
          rw [← evs_drop]
          exact (by rw [List.drop_of_length_le (by rw [evs_len, ← HM2.out]; omega)]; exact Reads.none_ _ _ _ _)
        have hz1 : 0 + m2 ≤ maxLen := by unfold maxLen; omega
        have hz2 : (0 + m2) * 32 ≤ 140737488355328 := by omega
        have hz3 : m2 + 1 ≤ maxLen := by unfold maxLen; omega
        have hz4 : (m2 + 1) * 32 ≤ 140737488355328 := by omega
        have hz5 : m2 + 1 + 0 ≤ maxLen := by unfold maxLen; omega
        have hz6 : (m2 + 1 + 0) * 32 ≤ 140737488355328 := by omega
        have ht0 : (0 : Int) ≤ (m2 : Int) := by omega
        have htm : (m2 : Int) ≤ (m2 : Int) := by omega
        have htc : (m2 : Int) ≤ (c2 : Int) := by omega
        have hsub : ((m2 : Int) - (m2 : Int)).toNat = 0 := by omega
        have hkA := hkW.below hbA hkW.lt
        have qa := hkA.cell 0
        go_upto_region 6 with (first
          | (at_builtin
             go_must (refine wpList_append (by rfl) (.tmp 28) (.tmp 31) 28 (by rfl) ent_ok Try.underlying28 hown0 (by rfl) hf0 (by rfl) (evs_one _) hz1 hz2 (by simp) ?_)
             intro v5 w5 hown5 hb5 _ _)
          | fail)
        rw [Nat.zero_add, List.nil_append] at hown5
        have hb5' : Below W.heap.size W w5 := hbA.trans hb5
        have hk5 := hkW.below hb5' hkW.lt
        have hback5 := hback.below hb5'
        have p0 : w5.cell? ⟨fb, 0, none⟩ = some (.string x.1) := hk5.cell 0
        have p1 : w5.cell? ⟨fb, 1, none⟩ = some (.string x.2) := hk5.cell 1
        have hone := one_reads w5 x
        have hown6 := hown5.alloc (.cells #[.string x.1, .string x.2] 49)
        have hb6 : Below W.heap.size W (w5.alloc (.cells #[.string x.1, .string x.2] 49)) := hb5'.alloc hb5'.size _
        clear hown0 hf0 hback hkW hkA qa hb5 hrW hbA
        go_upto_region 7 with (first
          | (at_builtin
             refine wpList_append (by rfl) (.tmp 33) (.tmp 35) 28 (by rfl) ent_ok Try.underlying28 hown6 (by rfl) hone (by rfl) (evs_one _) hz3 hz4 hb6.size ?_
             intro v7 w7 hown7 hb7 _ _)
          | fail)
        rw [← evs_append] at hown7
        have hb7' : Below W.heap.size W w7 := hb6.trans hb7
        have hback7 := hback5.below (hb6.trans hb7 |> fun h => (Below.refl _ w5).alloc (by have := hb5'.size; omega) (.cells #[.string x.1, .string x.2] 49) |>.trans hb7)
        clear hown5 hown6 hone hback5 hk5 p0 p1 hb6 hb7
        go_wp2_with (first
          | (at_builtin
             refine wpList_append (by rfl) (.tmp 37) (.tmp 40) 28 (by rfl) ent_ok Try.underlying28 hown7 (by rfl) hback7 (by rfl) (evs_one _) hz5 hz6 hb7'.size ?_
             intro v8 w8 hown8 hb8 _ _
             rw [← evs_append] at hown8)
          | fail)
        go_ret
        have he : withL l x = R.take m2 ++ [x] ++ R.drop m2 := by
          rw [HX.out, HSP.out.1, HSP.out.2, List.append_assoc]
          rfl
        refine ⟨_, rfl, ?_, hbW.trans ((hb7'.trans hb8).mono hbW.size)⟩
        rw [he]
        have hle : (R.take m2 ++ [x] ++ R.drop m2).length = m2 + 1 + 0 := by
          simp only [List.length_append, List.length_take, List.length_drop, List.length_cons, List.length_nil]
          rw [← HM2.out]
          omega
        rw [hle]
        exact own_base2 hown8 hbW.size
      · obtain rfl : sp = none := HSN.out _ rfl
        by_cases hcc : c2 = m2
        · subst hcc
          go_wp2_with fail
          go_quiet (fail)
          go_upto_region 5 with (fail)
          have hkW : Blk (((w2.drewN k).drewN nq)) fb 49 #[.string x.1, .string x.2] := hk2
          have hrW : Reads (((w2.drewN k).drewN nq)) (((w2.drewN k).drewN nq)).heap.size 2 (some ⟨b, o, none⟩) c2 (evs R) := hrd
          have hbW : Below w.heap.size w (((w2.drewN k).drewN nq)) := below_drewN (below_drewN hbw2 _) _
          clear hk2 hrd hbw2 q0
          generalize ((w2.drewN k).drewN nq) = W at *
          have hown0 : (W.alloc (.cells #[] 49)).ownsRow W.heap.size 49 2 (.slice (some ⟨W.heap.size, 0, none⟩) 0 0) 0 [] := World.ownsRow_made W #[] 0 (Nat.le_refl _) (by decide) rfl
          have hbA : Below W.heap.size W (W.alloc (.cells #[] 49)) := (Below.refl _ W).alloc (Nat.le_refl _) _
          have hf0 : Reads (W.alloc (.cells #[] 49)) W.heap.size 2 (some ⟨b, o, none⟩) c2 (evs (R.take c2)) := by
            rw [← evs_take]
            exact (hrW.front2 ht).below hbA
          have hback : Reads W W.heap.size 2 (some ⟨b, o, none⟩) 0 (evs (R.drop c2)) := by
            rw [← evs_drop]
            exact (by rw [List.drop_of_length_le (by rw [evs_len, ← HM2.out]; omega)]; exact ⟨rfl, fun h => absurd h (by decide)⟩)
          have hz1 : 0 + c2 ≤ maxLen := by unfold maxLen; omega
          have hz2 : (0 + c2) * 32 ≤ 140737488355328 := by omega
          have hz3 : c2 + 1 ≤ maxLen := by unfold maxLen; omega
          have hz4 : (c2 + 1) * 32 ≤ 140737488355328 := by omega
          have hz5 : c2 + 1 + 0 ≤ maxLen := by unfold maxLen; omega
          have hz6 : (c2 + 1 + 0) * 32 ≤ 140737488355328 := by omega
          have ht0 : (0 : Int) ≤ (c2 : Int) := by omega
          have htm : (c2 : Int) ≤ (c2 : Int) := by omega
          have htc : (c2 : Int) ≤ (c2 : Int) := by omega
          have hsub : ((c2 : Int) - (c2 : Int)).toNat = 0 := by omega
          have hkA := hkW.below hbA hkW.lt
          have qa := hkA.cell 0
          go_upto_region 6 with (first
            | (at_builtin
               go_must (refine wpList_append (by rfl) (.tmp 28) (.tmp 31) 28 (by rfl) ent_ok Try.underlying28 hown0 (by rfl) hf0 (by rfl) (evs_one _) hz1 hz2 (by simp) ?_)
               intro v5 w5 hown5 hb5 _ _)
            | fail)
          rw [Nat.zero_add, List.nil_append] at hown5
          have hb5' : Below W.heap.size W w5 := hbA.trans hb5
          have hk5 := hkW.below hb5' hkW.lt
          have hback5 := hback.below hb5'
          have p0 : w5.cell? ⟨fb, 0, none⟩ = some (.string x.1) := hk5.cell 0
          have p1 : w5.cell? ⟨fb, 1, none⟩ = some (.string x.2) := hk5.cell 1
          have hone := one_reads w5 x
          have hown6 := hown5.alloc (.cells #[.string x.1, .string x.2] 49)
          have hb6 : Below W.heap.size W (w5.alloc (.cells #[.string x.1, .string x.2] 49)) := hb5'.alloc hb5'.size _
          clear hown0 hf0 hback hkW hkA qa hb5 hrW hbA
          go_upto_region 7 with (first
            | (at_builtin
               refine wpList_append (by rfl) (.tmp 33) (.tmp 35) 28 (by rfl) ent_ok Try.underlying28 hown6 (by rfl) hone (by rfl) (evs_one _) hz3 hz4 hb6.size ?_
               intro v7 w7 hown7 hb7 _ _)
            | fail)
          rw [← evs_append] at hown7
          have hb7' : Below W.heap.size W w7 := hb6.trans hb7
          have hback7 := hback5.below (hb6.trans hb7 |> fun h => (Below.refl _ w5).alloc (by have := hb5'.size; omega) (.cells #[.string x.1, .string x.2] 49) |>.trans hb7)
          clear hown5 hown6 hone hback5 hk5 p0 p1 hb6 hb7
          go_wp2_with (first
            | (at_builtin
               refine wpList_append (by rfl) (.tmp 37) (.tmp 40) 28 (by rfl) ent_ok Try.underlying28 hown7 (by rfl) hback7 (by rfl) (evs_one _) hz5 hz6 hb7'.size ?_
               intro v8 w8 hown8 hb8 _ _
               rw [← evs_append] at hown8)
            | fail)
          go_ret
          have he : withL l x = R.take c2 ++ [x] ++ R.drop c2 := by
            rw [HX.out, HSP.out.1, HSP.out.2, List.append_assoc]
            rfl
          refine ⟨_, rfl, ?_, hbW.trans ((hb7'.trans hb8).mono hbW.size)⟩
          rw [he]
          have hle : (R.take c2 ++ [x] ++ R.drop c2).length = c2 + 1 + 0 := by
            simp only [List.length_append, List.length_take, List.length_drop, List.length_cons, List.length_nil]
            rw [← HM2.out]
            omega
          rw [hle]
          exact own_base2 hown8 hbW.size
        · have hcs : ¬ c2 - m2 = 0 := by omega
          have hcs2 : ¬ ((c2 : Int) - (m2 : Int)) = 0 := by omega
          have hcs3 : ¬ m2 = c2 := fun e => hcc e.symm
          go_wp2_with fail
          go_quiet (fail)
          go_upto_region 5 with (fail)
          have hkW : Blk (((w2.drewN k).drewN nq)) fb 49 #[.string x.1, .string x.2] := hk2
          have hrW : Reads (((w2.drewN k).drewN nq)) (((w2.drewN k).drewN nq)).heap.size 2 (some ⟨b, o, none⟩) m2 (evs R) := hrd
          have hbW : Below w.heap.size w (((w2.drewN k).drewN nq)) := below_drewN (below_drewN hbw2 _) _
          clear hk2 hrd hbw2 q0
          generalize ((w2.drewN k).drewN nq) = W at *
          have hown0 : (W.alloc (.cells #[] 49)).ownsRow W.heap.size 49 2 (.slice (some ⟨W.heap.size, 0, none⟩) 0 0) 0 [] := World.ownsRow_made W #[] 0 (Nat.le_refl _) (by decide) rfl
          have hbA : Below W.heap.size W (W.alloc (.cells #[] 49)) := (Below.refl _ W).alloc (Nat.le_refl _) _
          have hf0 : Reads (W.alloc (.cells #[] 49)) W.heap.size 2 (some ⟨b, o, none⟩) m2 (evs (R.take m2)) := by
            rw [← evs_take]
            exact (hrW.front2 ht).below hbA
          have hback : Reads W W.heap.size 2 (some ⟨b, o + m2 * 2, none⟩) 0 (evs (R.drop m2)) := by
            rw [← evs_drop]
            exact (by have := hrW.back2 ht; rwa [Nat.sub_self] at this)
          have hz1 : 0 + m2 ≤ maxLen := by unfold maxLen; omega
          have hz2 : (0 + m2) * 32 ≤ 140737488355328 := by omega
          have hz3 : m2 + 1 ≤ maxLen := by unfold maxLen; omega
          have hz4 : (m2 + 1) * 32 ≤ 140737488355328 := by omega
          have hz5 : m2 + 1 + 0 ≤ maxLen := by unfold maxLen; omega
          have hz6 : (m2 + 1 + 0) * 32 ≤ 140737488355328 := by omega
          have ht0 : (0 : Int) ≤ (m2 : Int) := by omega
          have htm : (m2 : Int) ≤ (m2 : Int) := by omega
          have htc : (m2 : Int) ≤ (c2 : Int) := by omega
          have hsub : ((m2 : Int) - (m2 : Int)).toNat = 0 := by omega
          have hkA := hkW.below hbA hkW.lt
          have qa := hkA.cell 0
          go_upto_region 6 with (first
            | (at_builtin
               go_must (refine wpList_append (by rfl) (.tmp 28) (.tmp 31) 28 (by rfl) ent_ok Try.underlying28 hown0 (by rfl) hf0 (by rfl) (evs_one _) hz1 hz2 (by simp) ?_)
               intro v5 w5 hown5 hb5 _ _)
            | fail)
          rw [Nat.zero_add, List.nil_append] at hown5
          have hb5' : Below W.heap.size W w5 := hbA.trans hb5
          have hk5 := hkW.below hb5' hkW.lt
          have hback5 := hback.below hb5'
          have p0 : w5.cell? ⟨fb, 0, none⟩ = some (.string x.1) := hk5.cell 0
          have p1 : w5.cell? ⟨fb, 1, none⟩ = some (.string x.2) := hk5.cell 1
          have hone := one_reads w5 x
          have hown6 := hown5.alloc (.cells #[.string x.1, .string x.2] 49)
          have hb6 : Below W.heap.size W (w5.alloc (.cells #[.string x.1, .string x.2] 49)) := hb5'.alloc hb5'.size _
          clear hown0 hf0 hback hkW hkA qa hb5 hrW hbA
          go_upto_region 7 with (first
            | (at_builtin
               refine wpList_append (by rfl) (.tmp 33) (.tmp 35) 28 (by rfl) ent_ok Try.underlying28 hown6 (by rfl) hone (by rfl) (evs_one _) hz3 hz4 hb6.size ?_
               intro v7 w7 hown7 hb7 _ _)
            | fail)
          rw [← evs_append] at hown7
          have hb7' : Below W.heap.size W w7 := hb6.trans hb7
          have hback7 := hback5.below (hb6.trans hb7 |> fun h => (Below.refl _ w5).alloc (by have := hb5'.size; omega) (.cells #[.string x.1, .string x.2] 49) |>.trans hb7)
          clear hown5 hown6 hone hback5 hk5 p0 p1 hb6 hb7
          go_wp2_with (first
            | (at_builtin
               refine wpList_append (by rfl) (.tmp 37) (.tmp 40) 28 (by rfl) ent_ok Try.underlying28 hown7 (by rfl) hback7 (by rfl) (evs_one _) hz5 hz6 hb7'.size ?_
               intro v8 w8 hown8 hb8 _ _
               rw [← evs_append] at hown8)
            | fail)
          go_ret
          have he : withL l x = R.take m2 ++ [x] ++ R.drop m2 := by
            rw [HX.out, HSP.out.1, HSP.out.2, List.append_assoc]
            rfl
          refine ⟨_, rfl, ?_, hbW.trans ((hb7'.trans hb8).mono hbW.size)⟩
          rw [he]
          have hle : (R.take m2 ++ [x] ++ R.drop m2).length = m2 + 1 + 0 := by
            simp only [List.length_append, List.length_take, List.length_drop, List.length_cons, List.length_nil]
            rw [← HM2.out]
            omega
          rw [hle]
          exact own_base2 hown8 hbW.size

set_option maxHeartbeats 2000000 in
theorem room_any {A A1 A2 : Option Addr} {n c n1 c1 n2 c2 : Nat} {l : EL} {name : ByteArray} (w : World) (hr : Reads w w.heap.size 2 A n (evs l)) (hn : n ≤ 100000) (h1 : n1 ≤ 30000) (h2 : n2 ≤ 30000) :
    Calls Try.prog 41 #[.agg #[.slice A1 n1 c1, .slice A2 n2 c2], .slice A n c, .string name] w fun e w' => e = .returned (.bool true) ∧ Below w.heap.size w w' := by
  have hb0 : Below w.heap.size w (w.alloc (.cells #[.slice A1 n1 c1, .slice A2 n2 c2] 30)) := (Below.refl _ w).alloc (Nat.le_refl _) _
  have hk0 := Blk.new w 30 #[.slice A1 n1 c1, .slice A2 n2 c2]
  have hw : IntKind.i64.wrap ((n1 : Int) + (n2 : Int)) = (n1 : Int) + (n2 : Int) := IntWalk.i64_in _ (by omega)
  have hd : decide ((n1 : Int) + (n2 : Int) < 65536) = true := decide_eq_true (by omega)
  go_enter Try.func41, Try.ntmps41
  go_upto_region 1 with (fail)
  have HF := hide (rfind_any (c := c) (name := name) _ ((hr.below hb0).more hb0.size) hn)
  generalize w.alloc (.cells #[.slice A1 n1 c1, .slice A2 n2 c2] 30) = w1 at *
  have q0 : w1.cell? ⟨w.heap.size, 0, none⟩ = some (.slice A1 n1 c1) := hk0.cell 0
  have q1 : w1.cell? ⟨w.heap.size, 1, none⟩ = some (.slice A2 n2 c2) := hk0.cell 1
  cases hf : findL l name with
  | none =>
    rw [hf] at HF
    go_wp2_with (first
      | (go_at_call 14; go_must (refine HF.out.mono ?_; rintro e w2 ⟨rfl, rfl⟩; unfold findV))
      | fail)
    go_ret
    exact ⟨rfl, hb0⟩
  | some x =>
    rw [hf] at HF
    go_wp2_with (first
      | (go_at_call 14; go_must (refine HF.out.mono ?_; rintro e w2 ⟨rfl, rfl⟩; unfold findV))
      | fail)
    go_ret
    exact ⟨rfl, hb0⟩
end Go.Proofs.Ythfgblchlgodmaa
