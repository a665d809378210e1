/- The walk of all's iterator, as a range over it is told (package disk). Conditions: those of the theorem. -/
import Derived.Test.YtaaaljpnhfmbpaaDkG
namespace Go.Proofs.Ytaaaljpnhfmbpaa
open Go.RowKit Go.Shelf
set_option linter.unusedVariables false
attribute [local go_sem] Oper.semAt_some

def encF (x : FP) : Array Value := #[.string x.name, .pointer (some ⟨x.p, 0, none⟩)]
/-- what a round keeps: the disk, the box that holds it, its map, and rows of texts -/
def KeepsT (r : Nat) (W W' : World) : Prop := W.heap.size ≤ W'.heap.size ∧ W'.heap[r]? = W.heap[r]? ∧ ∀ k cs, (Blk W k 9 cs → Blk W' k 9 cs) ∧ (Blk W k 70 cs → Blk W' k 70 cs) ∧ (Blk W k 28 cs → Blk W' k 28 cs)
theorem KeepsT.trans {r : Nat} {X Y Z : World} (h : KeepsT r X Y) (k : KeepsT r Y Z) : KeepsT r X Z :=
  ⟨Nat.le_trans h.1 k.1, k.2.1.trans h.2.1, fun q cs => ⟨fun e => (k.2.2 q cs).1 ((h.2.2 q cs).1 e), fun e => (k.2.2 q cs).2.1 ((h.2.2 q cs).2.1 e), fun e => (k.2.2 q cs).2.2 ((h.2.2 q cs).2.2 e)⟩⟩
theorem row_blk {w : World} {B n c : Nat} {A : Option Addr} {e : TypeId} {xs : List Value} (h : w.ownsRow B e 1 (.slice A n c) n xs) : ∃ (gl : Nat) (cs : Array Value), 0 < n → A = some ⟨gl, 0, none⟩ ∧ Blk w gl e cs ∧ ∀ (j : Nat) (u : Value), xs[j]? = some u → cs[j]? = some u := by
  rcases h.2 with ⟨h1, h2⟩ | ⟨g, cap, cur, hv, hb, hg, _⟩
  · exact ⟨0, #[], fun h0 => by omega⟩
  · injection hv with e1 e2 e3
    have hk : Blk w g e cur := hg
    refine ⟨g, cur, fun h0 => ⟨e1, hk, fun j u hu => ?_⟩⟩
    subst e1
    have := h.cells (g := g) rfl j u hu
    rw [add_lit, Nat.zero_add, hk.cell] at this
    exact this

theorem look_file0 {w : World} {r : Nat} {fs : List FP} {f : FP} {k : ByteArray} (h : Ms w r (fs.map fkv)) (hf : fs.find? (fun f => decide (f.name = k)) = some f) : (Instr.lookup 68 (.map (some r)) (.string k) false).run Try.prog w = .ok (.pointer (some ⟨f.p, 0, none⟩)) w := by
  have := (Ms.lookup (P := Try.prog) Try.underlying68 Try.underlying9 h k zero_file).2
  rw [fkv_find, hf] at this
  exact this

set_option maxHeartbeats 4000000 in
set_option maxRecDepth 20000 in
theorem dall1_told (m : Nat) {B bx g r : Nat} {fs : List FP} {st lf : Int} {en : Bool} (w : World) (hbx : Blk w bx 28 #[.pointer (some ⟨g, 0, none⟩)]) (h : DK B w g r fs st en lf) (hl : fs.length ≤ 100000) (hs : ∀ f ∈ fs, f.name.size ≤ maxLen) :
    SeqToldP Fence.wide m Try.prog 49 #[.pointer (some ⟨bx, 0, none⟩)] encF (fun pre x W => pre = (srtF fs).take pre.length ∧ (srtF fs).take (pre.length + 1) = pre ++ [x] ∧ x ∈ fs) (KeepsT r) (fun xs => xs = srtF fs) w := by
  intro lp J W hW hJ hY h0
  have hbx' := hbx.below hW hbx.lt
  have h' := h.below hW
  obtain ⟨D0, hown, hsize, hperm⟩ := ms_owns h'.2.2.2.1 (by rw [List.length_map]; unfold maxLen; omega) (fun p hp => by obtain ⟨f, hf, rfl⟩ := List.mem_map.1 hp; exact hs f hf)
  rw [List.length_map] at hsize hown
  have c1 : W.cell? ⟨bx, 0, none⟩ = some (.pointer (some ⟨g, 0, none⟩)) := hbx'.cell 0
  have c0 : W.cell? ⟨g, 0, none⟩ = some (.map (some r)) := h'.1.cell 0
  have hpe := fun w => run_eql_disk w ⟨g, 0, none⟩
  refine callsIn_of_wp Try.func49 rfl trivial ?_ rfl
  simp only [Try.ntmps49, List.size_toArray, List.length_cons, List.length_nil, Nat.reduceAdd, Nat.reduceSub, Array.replicate_succ, Array.replicate_zero, List.push_toArray, List.append_toArray, List.nil_append, List.cons_append]
  gi_wp2_with fail
  refine ⟨trivial, fun h => (by cases h), (callsIn_wide.2 ((callsIn_wide (n := 5)).1 (Try.maps_Keys_51 (some r) W))).mono ?_⟩
  rintro e W1 ⟨rfl, rfl⟩
  gi_wp2_with fail
  refine ⟨trivial, fun h => (by cases h), (callsIn_wide.2 ((callsIn_wide (n := 5)).1 (Try.slices_Sorted_keys_50_51 r fs.length D0 _ W hown (by rw [hsize]; unfold maxLen; omega) (by rw [hsize]; omega)))).mono ?_⟩
  rintro e W2 ⟨v, ss, rfl, hss, hrow, _, hb2⟩
  have hb1 : Below W.heap.size W (W.alloc (.cells #[.map (some r)] 68)) := (Below.refl _ W).alloc (Nat.le_refl _) _
  have hbW2 : Below W.heap.size W W2 := hb1.trans (hb2.mono hb1.size)
  have hN : ss.mergeSort (fun x y => decide (x ≤ y)) = namesF fs := mergeSort_of_perm (hss.trans hperm)
  have hln : ss.length = (namesF fs).length := by rw [← hN, List.length_mergeSort]
  rw [hN, hln, namesF_len] at hrow
  obtain ⟨A, c, rfl, hc1, hc2⟩ := own_slice hrow
  obtain ⟨kb, cs, hkb⟩ := row_blk hrow
  have hJ2 : J [] W2 := hJ [] W W2 none h0 ⟨hbW2.os, hbW2.tape, hbW2.output, hbW2.size, fun k hk _ => hbW2.block k hk⟩ (fun r e => by cases e)
  have hbx2 := hbx'.below hbW2 hbx'.lt
  have h2 := h'.below hbW2
  have HKB := hide hkb
  have hls := srtF_len fs
  rw [namesF_len] at hls
  have HLS := hide hls
  have HLN := hide (namesF_len fs)
  clear hkb hrow hss hN hln hown hsize hperm c1 c0 hb1 hb2 hbW2 h' hbx' h0 hls
  generalize fs.length = n at *
  gi_wp2_with fail
  gi_loopw [4, 14] (fun _ i wr => ∃ t : Nat, i = .int .i64 t ∧ t ≤ n ∧ J ((srtF fs).take t) wr ∧ Blk wr bx 28 #[.pointer (some ⟨g, 0, none⟩)] ∧ Blk wr g 70 (kcells r st en lf) ∧ Ms wr r (fs.map fkv) ∧ (0 < n → Blk wr kb 9 cs)) (fun _ i _ => n - (intOf i).toNat)
  case atStart => exact ⟨0, rfl, Nat.zero_le _, hJ2, hbx2, h2.1, h2.2.2.2.1, fun h0 => (HKB.out h0).2.1⟩
  case round =>
    obtain ⟨t, rfl, ht, hJt, q1, q2, q3, q4⟩ := hrel
    by_cases htn : t < n
    · have htI : (t : Int) < (n : Int) := by omega
      have ht0 : (0 : Int) ≤ (t : Int) := by omega
      have hw2 : IntKind.i64.wrap ((t : Int) + 1) = (t : Int) + 1 := IntWalk.i64_in _ (by omega)
      obtain ⟨eA, _, hcs⟩ := HKB.out (by omega)
      subst eA
      obtain ⟨x, hx⟩ : ∃ x, (namesF fs)[t]? = some x := ⟨(namesF fs)[t]'(by rw [HLN.out]; exact htn), List.getElem?_eq_getElem _⟩
      obtain ⟨f, hf1, hf2, hf3, hf4⟩ := srtF_at hx
      have hcell : wr.cell? ⟨kb, t, none⟩ = some (.string f.name) := by
        rw [(q4 (by omega)).cell, hcs t _ (by rw [List.getElem?_map, hx]; rfl), hf3]
        try rfl
      have k1 : wr.cell? ⟨bx, 0, none⟩ = some (.pointer (some ⟨g, 0, none⟩)) := q1.cell 0
      have k0 : wr.cell? ⟨g, 0, none⟩ = some (.map (some r)) := q2.cell 0
      have hlk := look_file0 q3 (k := f.name) (by rw [hf3]; exact hf1)
      have hplen : ((srtF fs).take t).length = t := by rw [List.length_take, HLS.out]; omega
      obtain ⟨fn, tmps, assign, body, hy, hR⟩ := hY ((srtF fs).take t) f wr hJt ⟨by rw [hplen], by rw [hplen]; exact hf4, hf2⟩
      dsimp only [encF] at hy
      have HF4 := hide hf4
      clear hf1 hf3 hf4 hx hcs hplen
      gi_wp2_with fail
      refine ⟨fun h => (by cases h), hR.mono ?_⟩
      rintro e W3 ⟨rfl, hJ3, hk3⟩
      gi_wp2_with fail
      go_roundw
      case rel =>
        refine ⟨t + 1, by simp, by omega, by rw [HF4.out]; exact hJ3, (hk3.2.2 _ _).2.2 q1, (hk3.2.2 _ _).2.1 q2, q3.keep hk3.2.1, fun h0 => (hk3.2.2 _ _).1 (q4 h0)⟩
      case measure => simp [intOf]; omega
    · have htI : ¬ (t : Int) < (n : Int) := by omega
      obtain rfl : t = n := by omega
      gi_wp2_with fail
      go_end0
      rw [List.take_of_length_le (by rw [HLS.out]; exact Nat.le_refl _)] at hJt
      first | exact ⟨⟨_, rfl⟩, hJt⟩ | exact ⟨⟨_, rfl⟩, srtF fs, rfl, hJt⟩
end Go.Proofs.Ytaaaljpnhfmbpaa
