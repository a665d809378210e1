/- The walk of Digest (package sums). -/
import Derived.Test.YthfgblchlgodmaaBlocks
import Derived.Test.YthfgblchlgodmaaBlock
import Derived.Test.YthfgblchlgodmaaText
namespace Go.Proofs.Ythfgblchlgodmaa
open Go.RowKit Go.Shelf
set_option linter.unusedVariables false

theorem blocks_any (A : Option Addr) (n c : Nat) (w : World) :
    Calls Try.prog 57 #[.slice A n c] w fun e w' => e = .returned (.func (.func 65) #[] #[.pointer (some ⟨w.heap.size, 0, none⟩)]) ∧ w' = w.alloc (.cells #[.slice A n c] 52) := by
  go_enter Try.func57, Try.ntmps57
  go_wp2_with fail
  refine bodyPost_ret (v := .func (.func 65) #[] #[.pointer (some ⟨w.heap.size, 0, none⟩)]) (by simp [results, Try.results57, go_sem]) rfl ⟨rfl, rfl⟩
def digSt (l : List UInt8) : St := (chunks ((padded l).length / 64) (padded l)).foldl blockOf start
theorem fold_fits : ∀ (xs : List (List UInt8)) (s : St), s.fits → (xs.foldl blockOf s).fits
  | [], _, h => h
  | x :: r, s, _ => fold_fits r _ (addSt_fits _ _)
theorem start_fits : start.fits := by unfold St.fits start; decide

theorem keepsFrom_below (B : Nat) {W W' : World} (h : Below W.heap.size W W') : KeepsFrom B W W' := ⟨h.size, fun k o _ hk _ => (h.block k (Array.getElem?_eq_some_iff.1 hk).1).trans hk⟩
theorem keepsCells_below (B : Nat) {W W' : World} (h : Below W.heap.size W W') : KeepsCells B W W' := ⟨h.size, fun b o v _ hv => by
  obtain ⟨ob, hob, _⟩ := cells_of_cell hv
  exact (h.cell (p := ⟨b, o, none⟩) (Array.getElem?_eq_some_iff.1 hob).1).trans hv⟩
theorem keepsCells_set {B g o : Nat} {v : Value} {W : World} (hg : g < B) : KeepsCells B W (W.setCell ⟨g, o, none⟩ v) := ⟨by simp, fun b q u hb hu => by
  rw [World.cell?_setCell_other W ⟨g, o, none⟩ ⟨b, q, none⟩ v (fun e => by injection e with e; omega)]; exact hu⟩
attribute [local go_sem] Oper.semAt_some
set_option maxHeartbeats 1000000 in
theorem digest_any (A : Option Addr) (n c : Nat) (l : List UInt8) (w : World) (hr : Reads w w.heap.size 1 A n (bvs l)) (hn : n ≤ 100000) :
    Calls Try.prog 44 #[.slice A n c] w fun e w' => e = .returned (.string ⟨(textOf (digSt l)).toArray⟩) ∧ Below w.heap.size w w' := by
  refine (callsIn_wide (n := 5)).1 ?_
  refine callsIn_of_wp_marks Try.func44 rfl trivial ?_ rfl
  simp only [Try.ntmps44, List.size_toArray, List.length_cons, List.length_nil, Nat.reduceAdd, Nat.reduceSub, Array.replicate_succ, Array.replicate_zero, List.push_toArray, List.append_toArray, List.nil_append, List.cons_append]
  gi_wp2_with fail
  refine ⟨trivial, (callsIn_wide.2 (start_any w)).mono ?_⟩
  rintro e w1 ⟨rfl, hb1⟩
  have hr1 := (hr.below hb1).more hb1.size
  have hs5 : start.cells = #[.int .u32 start.a, .int .u32 start.b, .int .u32 start.c, .int .u32 start.d, .int .u32 start.e] := rfl
  rw [hs5]
  gi_wp2_with fail
  refine ⟨trivial, (callsIn_wide.2 (blocks_any A n c _)).mono ?_⟩
  rintro e w2 ⟨rfl, rfl⟩
  have hk := (Blk.new w1 93 #[Value.int .u32 start.a, .int .u32 start.b, .int .u32 start.c, .int .u32 start.d, .int .u32 start.e]).alloc (.cells #[.slice A n c] 52)
  have hbx := cell_one_new (w1.alloc (.cells #[Value.int .u32 start.a, .int .u32 start.b, .int .u32 start.c, .int .u32 start.d, .int .u32 start.e] 93)) (.slice A n c) 52 0 _ rfl
  have hb2 : Below w.heap.size w ((w1.alloc (.cells #[Value.int .u32 start.a, .int .u32 start.b, .int .u32 start.c, .int .u32 start.d, .int .u32 start.e] 93)).alloc (.cells #[.slice A n c] 52)) := hb1.trans (((Below.refl _ w1).alloc hb1.size _).alloc (by have := hb1.size; simp; omega) _)
  have hr2 := (hr.below hb2).more hb2.size
  have hsz2 : ((w1.alloc (.cells #[Value.int .u32 start.a, .int .u32 start.b, .int .u32 start.c, .int .u32 start.d, .int .u32 start.e] 93)).alloc (.cells #[.slice A n c] 52)).heap.size = w1.heap.size + 2 := by simp
  have hszw := hb1.size
  try simp only [World.size_alloc] at hbx
  gi_wp2_with fail
  try simp only [World.size_alloc]
  generalize (w1.alloc (.cells #[Value.int .u32 start.a, .int .u32 start.b, .int .u32 start.c, .int .u32 start.d, .int .u32 start.e] 93)).alloc (.cells #[.slice A n c] 52) = W0 at *
  generalize hg : w1.heap.size = g at *
  replace hk : Blk W0 g 93 start.cells := hk
  replace hbx : W0.cell? ⟨g + 1, 0, none⟩ = some (.slice A n c) := by simpa [Addr.add] using hbx
  refine range_told rfl (by omega) (gf := 65) (lb := #[.pointer (some ⟨g + 1, 0, none⟩)]) rfl trivial (enters_of Try.func65 (by kernel_rfl) rfl)
    (blocks_told _ A n c l (g + 1) W0 hbx (by omega) hr2 hn) KeepsCells.trans keeps_putObj (fun _ => rfl)
    (fun pre W => Blk W g 93 ((pre.map (·.2.2)).foldl blockOf start).cells ∧ Below w.heap.size w W ∧ W0.heap.size ≤ W.heap.size) ?own (rx_own _) ⟨hk, hb2, Nat.le_refl _⟩
    (fun x => { tmps := #[.slice A n c, undef, .string ⟨#[]⟩, .pointer (some ⟨g, 0, none⟩), .slice x.1 64 x.2.1, .agg #[Value.int .u32 start.a, .int .u32 start.b, .int .u32 start.c, .int .u32 start.d, .int .u32 start.e], .slice A n c, .func (.func 65) #[] #[.pointer (some ⟨g + 1, 0, none⟩)], .slice x.1 64 x.2.1, undef, undef, undef, undef, undef, undef, undef, undef], defers := [] }) ?assign ?body ?done
  case own =>
    intro pre A' B' row hs hgr hr
    refine ⟨?_, ?_, Nat.le_trans hs.2.2 hgr.size⟩
    · exact hs.1.grown hgr (fun e => by
        obtain ⟨ob, hob, hc⟩ := (hr g e.symm).2
        have hB := hs.1
        unfold Blk at hB
        rw [hB] at hob
        injection hob with hob
        subst hob
        cases hc)
    · exact hs.2.1.grown hgr hs.2.1.size (fun k e => Nat.le_trans hb2.size (hr k e).1)
  case assign =>
    intro l x W K hK
    unfold encB
    gi_wp2
    exact hK
  case body =>
    rintro lp pre x W ⟨hB, hbw, hsz⟩ hrx
    have hq := blk5 (a := .int .u32 0) (b := .int .u32 0) (c := .int .u32 0) (d := .int .u32 0) (e := .int .u32 0) (w := W) (g := g) (t := 93)
    clear hq
    generalize hst : (pre.map (·.2.2)).foldl blockOf start = st at *
    have hfit : st.fits := by rw [← hst]; exact fold_fits _ _ start_fits
    have hB' := hB
    unfold St.cells at hB'
    obtain ⟨q0, q1, q2, q3, q4⟩ := blk5 hB'
    gi_wp2_with fail
    refine ⟨trivial, (CallsIn.inRound lp (callsIn_wide.2 (block_any st hfit x.1 x.2.1 x.2.2 W hrx.1 hrx.2.1 hrx.2.2))).mono ?_⟩
    rintro e w3 ⟨rfl, hb3⟩
    have hgW : g < W.heap.size := by omega
    have hB3 := hB'.below hb3 hgW
    have hbw3 := hbw.trans (hb3.mono hbw.size)
    have hsz3 := hb3.size
    have hfold : (((pre ++ [x]).map (·.2.2)).foldl blockOf start) = blockOf st x.2.2 := by rw [List.map_append, List.foldl_append, hst]; rfl
    generalize hst' : blockOf st x.2.2 = st' at *
    have hc' : st'.cells = #[.int .u32 st'.a, .int .u32 st'.b, .int .u32 st'.c, .int .u32 st'.d, .int .u32 st'.e] := rfl
    rw [hc']
    have hz0 := hB3.frozen 0
    have hz1 := hB3.frozen 1
    have hz2 := hB3.frozen 2
    have hz3 := hB3.frozen 3
    have hz4 := hB3.frozen 4
    clear q0 q1 q2 q3 q4
    obtain ⟨q0, q1, q2, q3, q4⟩ := blk5 hB3
    gi_wp2_with fail
    refine ⟨(keepsFrom_below _ hb3).trans ((((((KeepsOthers.setCell _ _ _).trans (KeepsOthers.setCell _ _ _)).trans (KeepsOthers.setCell _ _ _)).trans (KeepsOthers.setCell _ _ _)).trans (KeepsOthers.setCell _ _ _)).from _), ?_, ?_, ?_, ?_⟩
    · have hgB : g < W0.heap.size := by omega
      exact (((((keepsCells_below _ hb3).trans (keepsCells_set hgB)).trans (keepsCells_set hgB)).trans (keepsCells_set hgB)).trans (keepsCells_set hgB)).trans (keepsCells_set hgB)
    · rw [hfold, hc']
      exact ((((hB3.set_ 0 _).set_ 1 _).set_ 2 _).set_ 3 _).set_ 4 _
    · exact ((((hbw3.setCell (by simp; omega) _).setCell (by simp; omega) _).setCell (by simp; omega) _).setCell (by simp; omega) _).setCell (by simp; omega) _
    · simp; omega
  case done =>
    rintro D xs W hD hS ⟨hB, hbw, hsz⟩ hK
    rw [hS] at hB
    generalize hst : (chunks ((padded l).length / 64) (padded l)).foldl blockOf start = st at *
    have hfit : st.fits := by rw [← hst]; exact fold_fits _ _ start_fits
    have hB' := hB
    unfold St.cells at hB'
    obtain ⟨q0, q1, q2, q3, q4⟩ := blk5 hB'
    gi_wp2_with fail
    refine ⟨trivial, (callsIn_wide.2 (text_any st hfit W)).mono ?_⟩
    rintro e w4 ⟨rfl, hb4⟩
    gi_wp2_with fail
    have hK4 := (hb4.block D (Array.getElem?_eq_some_iff.1 hK).1).trans hK
    have hb5 := (hbw.trans (hb4.mono hbw.size)).trans (belowK_b (w := w) (Nat.le_refl _) w4 D _ (.deferred none) (by have := hb2.size; omega) hK4 rfl rfl)
    refine ⟨by simp, .inl ⟨_, _, rfl, run_takeDeferred hK4, ?_⟩⟩
    exact ⟨_, results_tmp rfl _ _ _, by rw [← hst]; rfl, hb5⟩
end Go.Proofs.Ythfgblchlgodmaa
