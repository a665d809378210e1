/- The walk of Crash (package disk). Conditions: those of the theorem. -/
import Derived.Test.YtaaaljpnhfmbpaaDkL
import Derived.Lib.MinMax
import Derived.Sort.CutIn
namespace Go.Proofs.Ytaaaljpnhfmbpaa
open Go.RowKit Go.Shelf
set_option linter.unusedVariables false
attribute [local go_sem] Oper.semAt_some

def ivs (l : List Int) : List Value := l.map (.int .i64)
theorem Reads.ivAt {w : World} {B n : Nat} {A : Option Addr} {l : List Int} {k : Nat} (h : Reads w B 1 A n (ivs l)) (hk : k < n) : ∃ b o z, A = some ⟨b, o, none⟩ ∧ b < B ∧ l[k]? = some z ∧ w.cell? ⟨b, o + k, none⟩ = some (.int .i64 z) := by
  obtain ⟨b, o, u, e, hb, hx, hc⟩ := h.at_ hk
  unfold ivs at hx
  rw [List.getElem?_map] at hx
  cases hl : l[k]? with
  | none => rw [hl] at hx; cases hx
  | some z => rw [hl] at hx; injection hx with hx; subst hx; exact ⟨b, o, z, e, hb, rfl, hc⟩
theorem Reads.ilen {w : World} {B n : Nat} {A : Option Addr} {l : List Int} (h : Reads w B 1 A n (ivs l)) : l.length = n := by
  have := h.1
  unfold ivs at this
  rw [List.length_map] at this
  omega

theorem DK.base {B B' : Nat} {w : World} {g r : Nat} {fs : List FP} {st lf : Int} {en : Bool} (h : DK B' w g r fs st en lf) (hB : B ≤ B') : DK B w g r fs st en lf :=
  ⟨h.1, Nat.le_trans hB h.2.1, Nat.le_trans hB h.2.2.1, h.2.2.2.1, fun f hf => by
    obtain ⟨a1, a2, a3, a4⟩ := h.2.2.2.2.1 f hf
    exact ⟨a1, Nat.le_trans hB a2, zown_base a3 hB, a4⟩, h.2.2.2.2.2⟩
set_option maxHeartbeats 16000000 in
set_option maxRecDepth 100000 in
theorem crash_any {B g r m mc : Nat} {M : Option Addr} {ks : List Int} {fs : List FP} {st lf : Int} {en : Bool} (w : World) (h : DK B w g r fs st en lf) (hM : Reads w w.heap.size 1 M m (ivs ks)) (hm : m ≤ 1000000) (hl : fs.length ≤ 100000) (hs : ∀ x ∈ fs, x.name.size ≤ maxLen) (hbz : ∀ x ∈ fs, x.n ≤ 10000000) (hnd : ((srtF fs).map (·.name)).Nodup) :
    Calls Try.prog 24 #[.pointer (some ⟨g, 0, none⟩), .slice M m mc] w fun e w' => ∃ g' r' fs', e = .returned (.pointer (some ⟨g', 0, none⟩)) ∧ DK w.heap.size w' g' r' fs' 0 false 0 ∧ fs'.map fdat = crashL ks ((srtF fs).map fdat) ∧ Below w.heap.size w w' := by
  have hpe := fun w => run_eql_disk w ⟨g, 0, none⟩
  have hme := fun w => run_eql_files w r
  refine (callsIn_wide (n := 5)).1 ?_
  refine callsIn_of_wp_marks Try.func24 rfl trivial ?_ rfl
  simp only [Try.ntmps24, List.size_toArray, List.length_cons, List.length_nil, Nat.reduceAdd, Nat.reduceSub, Array.replicate_succ, Array.replicate_zero, List.push_toArray, List.append_toArray, List.nil_append, List.cons_append]
  refine wpIn_wide.2 ?_
  have hK0 := Blk.new w 42 #[.slice M m mc]
  have hb0 : Below w.heap.size w (w.alloc (.cells #[.slice M m mc] 42)) := (Below.refl _ w).alloc (Nat.le_refl _) _
  go_upto_region 1 with (fail)
  generalize w.alloc (.cells #[.slice M m mc] 42) = w1 at *
  have h1 := h.below hb0
  have c0 : w1.cell? ⟨g, 0, none⟩ = some (.map (some r)) := h1.1.cell 0
  go_upto_region 4 with (first
    | (go_at_call 31
       go_must (
       refine (dnew_any w1).mono ?_
       rintro e w2 ⟨g', r', rfl, hd2, hb2⟩
       have ho3 : (w2.alloc (.cells #[.pointer none] 28)).cell? ⟨w2.heap.size, 0, none⟩ = some (.pointer none) := (Blk.new w2 28 #[.pointer none]).cell 0
       have ho3f := (Blk.new w2 28 #[.pointer none]).frozen 0))
    | fail)
  have h2 := h1.below hb2
  have hK2 := hK0.below hb2 hK0.lt
  have hrr : r < w.heap.size := h.2.2.2.1.lt
  have hd2' := hd2.base hb0.size
  have hr'2 : r' < w2.heap.size := hd2.2.2.2.1.lt
  have hb02 := hb0.trans (hb2.mono hb0.size)
  have hrne : r ≠ r' := fun e => by have := hd2.2.2.1; have := hb0.size; omega
  clear h1 hK0 hb0 c0 hd2 ho3 ho3f hb2
  have hb3 : Below w2.heap.size w2 (w2.alloc (.cells #[.pointer (some ⟨g', 0, none⟩)] 28)) := (Below.refl _ w2).alloc (Nat.le_refl _) _
  have hO := Blk.new w2 28 #[.pointer (some ⟨g', 0, none⟩)]
  have h3 := h2.below hb3
  have hK3 := hK2.below hb3 hK2.lt
  have hd3 := hd2'.below hb3
  have hb03 := hb02.trans (hb3.mono hb02.size)
  have hr'3 : r' < (w2.alloc (.cells #[.pointer (some ⟨g', 0, none⟩)] 28)).heap.size := Nat.lt_of_lt_of_le hr'2 hb3.size
  clear h2 hK2 hd2' hb02 hr'2 hb3
  obtain ⟨ob, hobe⟩ : ∃ ob, ob = w2.heap.size := ⟨_, rfl⟩
  rw [← hobe] at hO
  simp only [← hobe]
  generalize w2.alloc (.cells #[.pointer (some ⟨g', 0, none⟩)] 28) = w3 at *
  clear hobe
  go_upto_region 5 with (fail)
  have hb4 : Below w3.heap.size w3 (w3.alloc (.cells #[.int .i64 0] 3)) := (Below.refl _ w3).alloc (Nat.le_refl _) _
  have hI := Blk.new w3 3 #[.int .i64 0]
  have h4 := h3.below hb4
  have hK4 := hK3.below hb4 hK3.lt
  have hO4 := hO.below hb4 hO.lt
  have hd4 := hd3.below hb4
  have hb04 := hb03.trans (hb4.mono hb03.size)
  have hr'4 : r' < (w3.alloc (.cells #[.int .i64 0] 3)).heap.size := Nat.lt_of_lt_of_le hr'3 hb4.size
  have hiw : w.heap.size ≤ w3.heap.size := hb03.size
  clear h3 hK3 hO hd3 hb4
  obtain ⟨ib, hibe⟩ : ∃ ib, ib = w3.heap.size := ⟨_, rfl⟩
  rw [← hibe] at hI hiw
  simp only [← hibe]
  generalize w3.alloc (.cells #[.int .i64 0] 3) = w4 at *
  clear hibe
  have hb5 : Below w4.heap.size w4 (w4.alloc (.cells #[.pointer (some ⟨g, 0, none⟩)] 28)) := (Below.refl _ w4).alloc (Nat.le_refl _) _
  have hk5 := Blk.new w4 28 #[.pointer (some ⟨g, 0, none⟩)]
  have h5 := h4.below hb5
  have hK5 := hK4.below hb5 hK4.lt
  have hO5 := hO4.below hb5 hO4.lt
  have hI5 := hI.below hb5 hI.lt
  have hd5 := hd4.below hb5
  have hb05 := hb04.trans (hb5.mono hb04.size)
  have hr'5 : r' < (w4.alloc (.cells #[.pointer (some ⟨g, 0, none⟩)] 28)).heap.size := Nat.lt_of_lt_of_le hr'4 hb5.size
  have hr5 : r < (w4.alloc (.cells #[.pointer (some ⟨g, 0, none⟩)] 28)).heap.size := Nat.lt_of_lt_of_le hrr hb05.size
  clear hK4 hO4 hI hd4 hb5 hpe hme
  go_wp2_with (first
    | (go_at_call 37
       go_must (
       refine (dall_any g w4).mono ?_
       rintro e w5 ⟨rfl, rfl⟩))
    | fail)
  generalize hw5 : w4.alloc (.cells #[.pointer (some ⟨g, 0, none⟩)] 28) = w5 at *
  clear hw5
  refine (wpIn_wide (n := 5)).1 ?_
  refine range_toldP rfl (by omega) (gf := 49) (lb := #[.pointer (some ⟨w4.heap.size, 0, none⟩)]) rfl trivial (enters_of Try.func49 (by kernel_rfl) rfl)
    (dall1_told _ w5 hk5 h5 hl hs) KeepsT.trans ?keepP (fun _ => rfl)
    (fun pre W => (∃ fsp, DK w.heap.size W g' r' fsp 0 false 0 ∧ fsp.map fdat = crashL ks (pre.map fdat) ∧ fsp.map (·.name) = pre.map (·.name)) ∧ (Blk W ob 28 #[.pointer (some ⟨g', 0, none⟩)] ∧ Blk W ib 3 #[.int .i64 pre.length] ∧ Blk W w.heap.size 42 #[.slice M m mc]) ∧ Below w.heap.size w W ∧ w5.heap.size ≤ W.heap.size) ?own ?step ⟨⟨[], hd5, rfl, rfl⟩, ⟨hO5, hI5, hK5⟩, hb05, Nat.le_refl _⟩
    (fun x => { tmps := #[(Value.pointer (some ⟨g, 0, none⟩)), .slice M m mc, undef, .pointer (some ⟨w.heap.size, 0, none⟩), .pointer none, .pointer (some ⟨ob, 0, none⟩), .pointer (some ⟨ib, 0, none⟩), .string x.name, .pointer (some ⟨x.p, 0, none⟩), undef, undef, .pointer (some ⟨g, 0, none⟩), .bool false, .bool false, .pointer (some ⟨g, 0, none⟩), .pointer (some ⟨g, 0, none⟩), .pointer (some ⟨g, 0, none⟩), .map (some r), .bool false, .bool false, .pointer (some ⟨g', 0, none⟩), .pointer (some ⟨g, 0, none⟩), .func (.func 49) #[] #[.pointer (some ⟨w4.heap.size, 0, none⟩)], .string x.name, .pointer (some ⟨x.p, 0, none⟩), undef, undef, undef, undef, undef, undef, undef, undef, undef, undef, undef, undef, undef, undef, undef, undef, undef, undef, undef, undef, undef, undef, undef, undef, undef, undef, undef, undef, undef, undef, undef, undef, undef, undef, undef, undef, undef, undef, undef, undef, undef, undef, undef, undef, undef], defers := [] }) ?assign ?body ?done
  case keepP =>
    intro W k o o' hk ho hc _
    refine ⟨by simp [World.putObj], World.putObj_heap_other (by omega), fun q cs => ⟨fun e => ?_, fun e => ?_, fun e => ?_⟩⟩
    all_goals
      have hne : q ≠ k := fun e' => by
        unfold Blk at e
        rw [e', ho] at e
        cases e
        cases hc
      exact (World.putObj_heap_other hne).trans e
  case own =>
    rintro pre A2 B2 row ⟨⟨fsp, z1, z2, z3⟩, ⟨y1, y2, y3⟩, z4, z5⟩ hgr hr
    have hrow : ∀ q, row = some q → ∃ o, A2.heap[q]? = some o ∧ o.isCells = false := fun q e => (hr q e).2
    exact ⟨⟨fsp, z1.grownN hgr hr hr'5, z2, z3⟩, ⟨y1.grownN hgr hrow, y2.grownN hgr hrow, y3.grownN hgr hrow⟩, z4.grown hgr z4.size (fun k e => Nat.le_trans hb05.size (hr k e).1), Nat.le_trans z5 hgr.size⟩
  case step =>
    exact fun x A B row hs hg hr => hs
  case assign =>
    intro k x W K hK
    unfold encF
    gi_wp2
    exact hK
  case body =>
    rintro lp pre x W ⟨⟨fsp, z1, z2, z3⟩, ⟨y1, y2, y3⟩, q4, q5⟩ ⟨hx1, hx2, hx3⟩
    have hMs := (h.below q4).2.2.2.1
    obtain ⟨p1, p2, p3, p4⟩ := (h.below q4).2.2.2.2.1 x hx3
    have hMr := hM.below q4
    have hxn := hbz x hx3
    have hbl : x.b.length = x.n := (Reads.of_zown p3).blen
    have hnew : Hid (∀ y ∈ fsp, y.name ≠ x.name) := fun y hy e => by
      have h1 : y.name ∈ pre.map (·.name) := by rw [← z3]; exact List.mem_map.2 ⟨y, hy, rfl⟩
      have h2 : (((srtF fs).take (pre.length + 1)).map (·.name)).Nodup := hnd.sublist ((List.take_sublist _ _).map _)
      rw [hx2, List.map_append, List.nodup_append] at h2
      exact h2.2.2 _ h1 x.name (by simp) e
    have hfin : Hid (crashL ks ((pre ++ [x]).map fdat) = crashL ks (pre.map fdat) ++ [crash1 ks pre.length (fdat x)]) := by
      show _ = _
      rw [List.map_append, List.map_cons, List.map_nil, crashL_snoc, List.length_map]
    have hpl : pre.length ≤ 100000 := by
      have := congrArg List.length hx1
      rw [List.length_take, srtF_len, namesF_len] at this
      omega
    have hml := moreN_le ks pre.length x.n x.sy p4
    have Z2 := hide z2
    have Z3 := hide z3
    have HBL := hide hbl
    have hil := hide hMr.ilen
    clear hx1 hx2 z2 z3 hbl h4 hk5 h5 hK5 hO5 hI5 hd5 hM hbz hs hnd
    obtain ⟨N, hN⟩ : ∃ N, N = moreN ks pre.length x.n x.sy := ⟨_, rfl⟩
    rw [← hN] at hml
    have HN := hide hN
    have i1 : W.cell? ⟨ib, 0, none⟩ = some (.int .i64 pre.length) := y2.cell 0
    have k1 : W.cell? ⟨w.heap.size, 0, none⟩ = some (.slice M m mc) := y3.cell 0
    have b1d : W.cell? ⟨x.p, 0, none⟩ = some (.slice x.A x.n x.c) := p1.cell 0
    have s1d : W.cell? ⟨x.p, 1, none⟩ = some (.int .i64 x.sy) := p1.cell 1
    have hwd : IntKind.i64.wrap ((x.n : Int) - (x.sy : Int)) = (x.n : Int) - x.sy := IntWalk.i64_in _ (by omega)
    clear hN
    gi_upto_if 28 with (fail)
    gi_cut [9] from 25 (fun v9 W' => v9 = .int .i64 (N : Int) ∧ ∃ k, W' = W.drewN k)
    case first =>
      by_cases hi : pre.length < m
      · obtain ⟨kb, ko, z, rfl, hkb, hz, hcz⟩ := hMr.ivAt hi
        have hiI : (pre.length : Int) < (m : Int) := by omega
        have hi0 : (0 : Int) ≤ (pre.length : Int) := by omega
        have HM := hide (moreN_some hz x.n x.sy)
        rw [← HN.out] at HM
        clear hz
        gi_wp2_with fail
        refine wpIn_region_quietR (by kernel_rfl) (by kernel_rfl) (by kernel_rfl) ?_
        repeat (go_big_quiet_step (fail))
        refine wpQuiet_nil ?_
        intro _ hw'
        obtain ⟨nq, rfl⟩ := hw'
        gi_wp2_with fail
        gi_meet
        case rel => exact ⟨by rw [HM.out], nq, rfl⟩
      · have hiI : ¬ (pre.length : Int) < (m : Int) := by omega
        have HM := hide (moreN_none (ks := ks) (i := pre.length) (by rw [List.getElem?_eq_none]; rw [hil.out]; omega) x.n x.sy)
        rw [← HN.out] at HM
        gi_wp2_with fail
        gi_meet
        case rel => exact ⟨by rw [HM.out]; rfl, 0, rfl⟩
    case rest =>
      obtain ⟨rfl, kd, rfl⟩ := hcut
      have hcap : x.n ≤ x.c := by
        obtain ⟨A', cap, e, h1, h2⟩ := zown_slice p3
        injection e with e1 e2 e3
        omega
      have b1e : (W.drewN (kd + 1)).cell? ⟨x.p, 0, none⟩ = some (.slice x.A x.n x.c) := p1.cell 0
      have s1e : (W.drewN (kd + 1)).cell? ⟨x.p, 1, none⟩ = some (.int .i64 x.sy) := p1.cell 1
      obtain ⟨T, hT⟩ : ∃ T, T = x.sy + N := ⟨_, rfl⟩
      have hwa : IntKind.i64.wrap ((x.sy : Int) + (N : Int)) = (T : Int) := by rw [hT]; exact IntWalk.i64_in _ (by omega)
      have hTc : (T : Int) ≤ (x.c : Int) := by omega
      have hT0 : (0 : Int) ≤ (T : Int) := by omega
      have hTn : T ≤ x.n := by omega
      have HT := hide hT
      have hfr : Reads (W.drewN (kd + 1)) (W.drewN (kd + 1)).heap.size 1 x.A T (bvs (x.b.take T)) := (show Reads W W.heap.size 1 x.A x.n (bvs x.b) from Reads.of_zown p3).front hTn
      clear hT
      clear i1 k1 b1d s1d hwd
      gi_wp2_with fail
      refine wpIn_region_plain (by kernel_rfl) (by kernel_rfl) (fun _ _ h => h) ?_
      refine wpAny_take (i := 0) (v := ?_) rfl (by kernel_rfl) (by kernel_rfl) (by kernel_rfl) (fun _ _ _ h => onNormal_panic h) (Or.inl ⟨by rfl, ?hy⟩) ?_
      case hy => (intro w; go_simp; all_goals with_reducible rfl)
      refine wpAny_take (i := 1) (v := ?_) rfl (by kernel_rfl) (by kernel_rfl) (by kernel_rfl) (fun _ _ _ h => onNormal_panic h) (Or.inl ⟨by rfl, ?hy⟩) ?_
      case hy => (intro w; go_simp; all_goals with_reducible rfl)
      refine wpAny_take (i := 2) (v := ?_) rfl (by kernel_rfl) (by kernel_rfl) (by kernel_rfl) (fun _ _ _ h => onNormal_panic h) (Or.inl ⟨by rfl, ?hy⟩) ?_
      case hy => (intro w; go_simp; all_goals with_reducible rfl)
      refine wpAny_take (i := 4) (v := ?_) rfl (by kernel_rfl) (by kernel_rfl) (by kernel_rfl) (fun _ _ _ h => onNormal_panic h) (Or.inl ⟨by rfl, ?hy⟩) ?_
      case hy => (intro w; go_simp; all_goals with_reducible rfl)
      refine wpAny_take (i := 5) (v := ?_) rfl (by kernel_rfl) (by kernel_rfl) (by kernel_rfl) (fun _ _ _ h => onNormal_panic h) (Or.inl ⟨by rfl, ?hy⟩) ?_
      case hy => (intro w; go_simp; all_goals with_reducible rfl)
      refine wpAny_take (i := 6) (v := ?_) rfl (by kernel_rfl) (by kernel_rfl) (by kernel_rfl) (fun _ _ _ h => onNormal_panic h) (Or.inl ⟨by rfl, ?hy⟩) ?_
      case hy => (intro w; go_simp; all_goals with_reducible rfl)
      refine wpAny_take (i := 8) (v := ?_) rfl (by kernel_rfl) (by kernel_rfl) (by kernel_rfl) (fun _ _ _ h => onNormal_panic h) (Or.inl ⟨by rfl, ?hy⟩) ?_
      case hy => (intro w; go_simp; all_goals with_reducible rfl)
      refine wpAny_ready (rs := [3, 7]) (by kernel_rfl) (by simp) (AllReady.cons rfl (fun K hK => ?_) (AllReady.cons rfl (fun K hK => ?_) AllReady.nil))
      · go_simp
        refine hK _ _ ?_
        clear hK K
        refine wpAny_ready (rs := [7]) (by kernel_rfl) (by simp) (AllReady.cons rfl (fun K hK => ?_) AllReady.nil)
        · go_simp
          refine hK _ _ ?_
          clear hK K
          refine wpAny_take (i := 9) (v := ?_) rfl (by kernel_rfl) (by kernel_rfl) (by kernel_rfl) (fun _ _ _ h => onNormal_panic h) (Or.inl ⟨by rfl, ?hy⟩) ?_
          case hy => (intro w; go_simp; all_goals with_reducible rfl)
          refine wpAny_take (i := 10) (v := ?_) rfl (by kernel_rfl) (by kernel_rfl) (by kernel_rfl) (fun _ _ _ h => onNormal_panic h) (Or.inl ⟨by rfl, ?hy⟩) ?_
          case hy => (intro w; go_simp; all_goals with_reducible rfl)
          refine wpAny_ready (rs := [11]) (by kernel_rfl) (by simp) (AllReady.cons rfl (fun K hK => ?_) AllReady.nil)
          · (go_simp; go_at_call 36; go_must (refine (bclone_any _ _ _ _ _ hfr (by omega)).mono ?_; rintro e w2 ⟨v2, rfl, hown, hb2⟩); obtain ⟨A2, c2, rfl, hcl1, hcl2⟩ := own_slice hown)
            refine hK _ _ ?_
            clear hK K
            refine wpAny_take (i := 12) (v := ?_) rfl (by kernel_rfl) (by kernel_rfl) (by kernel_rfl) (fun _ _ _ h => onNormal_panic h) (Or.inl ⟨by rfl, ?hy⟩) ?_
            case hy => (intro w; go_simp; all_goals with_reducible rfl)
            refine wpAny_done (by kernel_rfl) ⟨rfl, ?_⟩ _
            have hW2 : Below W.heap.size W w2 := ⟨hb2.os, hb2.tape, hb2.output, hb2.size, hb2.block⟩
            have o2 : w2.cell? ⟨ob, 0, none⟩ = some (.pointer (some ⟨g', 0, none⟩)) := (y1.below hW2 y1.lt).cell 0
            have o3 : w2.cell? ⟨g', 0, none⟩ = some (.map (some r')) := (z1.below hW2).1.cell 0
            obtain ⟨ob4, hu, hu2⟩ := (((z1.below hW2).2.2.2.1).alloc (.cells #[.slice A2 T c2, .int .i64 T] 67)).update (P := Try.prog) Try.underlying68 Try.underlying9 x.name (.pointer (some ⟨w2.heap.size, 0, none⟩))
            have y4 : Blk ((w2.alloc (.cells #[.slice A2 T c2, .int .i64 T] 67)).putObj r' ob4) ib 3 #[.int .i64 pre.length] := ((y2.below hW2 y2.lt).alloc _).putObj (((z1.below hW2).2.2.2.1).alloc _) ob4
            have i4 : ((w2.alloc (.cells #[.slice A2 T c2, .int .i64 T] 67)).putObj r' ob4).cell? ⟨ib, 0, none⟩ = some (.int .i64 pre.length) := y4.cell 0
            have i4f := y4.frozen 0
            have hwi : IntKind.i64.wrap ((pre.length : Int) + 1) = (pre.length : Int) + 1 := IntWalk.i64_in _ (by omega)
            have HB2 := hide hb2
            have HU2 := hide hu2
            clear hb2 hu2 b1e s1e hwa hTc hT0 hfr
            gi_wp2_with fail
            have hlf := crash_leaf (vi := .int .i64 ((pre.length : Int) + 1)) z1 y1 y2 y3 q4 q5 hMs hrne hr'5 hiw hW2 hown hnew.out HU2.out rfl
            obtain ⟨l1, l2, l3, l4, l5, l6, l7, l8⟩ := hlf
            refine ⟨l1, l2, ⟨_, l3, ?_, ?_⟩, ⟨l4, by rw [List.length_append]; exact l5, l6⟩, l7, l8⟩
            · rw [List.map_append, Z2.out, hfin.out]
              simp only [List.map_cons, List.map_nil, fdat, crash1]
              rw [HBL.out, ← HN.out, ← HT.out]
            · rw [List.map_append, List.map_append, Z3.out]
              rfl
      · go_simp
        refine hK _ _ ?_
        clear hK K
        refine wpAny_take (i := 9) (v := ?_) rfl (by kernel_rfl) (by kernel_rfl) (by kernel_rfl) (fun _ _ _ h => onNormal_panic h) (Or.inl ⟨by rfl, ?hy⟩) ?_
        case hy => (intro w; go_simp; all_goals with_reducible rfl)
        refine wpAny_ready (rs := [3]) (by kernel_rfl) (by simp) (AllReady.cons rfl (fun K hK => ?_) AllReady.nil)
        · go_simp
          refine hK _ _ ?_
          clear hK K
          refine wpAny_take (i := 10) (v := ?_) rfl (by kernel_rfl) (by kernel_rfl) (by kernel_rfl) (fun _ _ _ h => onNormal_panic h) (Or.inl ⟨by rfl, ?hy⟩) ?_
          case hy => (intro w; go_simp; all_goals with_reducible rfl)
          refine wpAny_ready (rs := [11]) (by kernel_rfl) (by simp) (AllReady.cons rfl (fun K hK => ?_) AllReady.nil)
          · (go_simp; go_at_call 36; go_must (refine (bclone_any _ _ _ _ _ hfr (by omega)).mono ?_; rintro e w2 ⟨v2, rfl, hown, hb2⟩); obtain ⟨A2, c2, rfl, hcl1, hcl2⟩ := own_slice hown)
            refine hK _ _ ?_
            clear hK K
            refine wpAny_take (i := 12) (v := ?_) rfl (by kernel_rfl) (by kernel_rfl) (by kernel_rfl) (fun _ _ _ h => onNormal_panic h) (Or.inl ⟨by rfl, ?hy⟩) ?_
            case hy => (intro w; go_simp; all_goals with_reducible rfl)
            refine wpAny_done (by kernel_rfl) ⟨rfl, ?_⟩ _
            have hW2 : Below W.heap.size W w2 := ⟨hb2.os, hb2.tape, hb2.output, hb2.size, hb2.block⟩
            have o2 : w2.cell? ⟨ob, 0, none⟩ = some (.pointer (some ⟨g', 0, none⟩)) := (y1.below hW2 y1.lt).cell 0
            have o3 : w2.cell? ⟨g', 0, none⟩ = some (.map (some r')) := (z1.below hW2).1.cell 0
            obtain ⟨ob4, hu, hu2⟩ := (((z1.below hW2).2.2.2.1).alloc (.cells #[.slice A2 T c2, .int .i64 T] 67)).update (P := Try.prog) Try.underlying68 Try.underlying9 x.name (.pointer (some ⟨w2.heap.size, 0, none⟩))
            have y4 : Blk ((w2.alloc (.cells #[.slice A2 T c2, .int .i64 T] 67)).putObj r' ob4) ib 3 #[.int .i64 pre.length] := ((y2.below hW2 y2.lt).alloc _).putObj (((z1.below hW2).2.2.2.1).alloc _) ob4
            have i4 : ((w2.alloc (.cells #[.slice A2 T c2, .int .i64 T] 67)).putObj r' ob4).cell? ⟨ib, 0, none⟩ = some (.int .i64 pre.length) := y4.cell 0
            have i4f := y4.frozen 0
            have hwi : IntKind.i64.wrap ((pre.length : Int) + 1) = (pre.length : Int) + 1 := IntWalk.i64_in _ (by omega)
            have HB2 := hide hb2
            have HU2 := hide hu2
            clear hb2 hu2 b1e s1e hwa hTc hT0 hfr
            gi_wp2_with fail
            have hlf := crash_leaf (vi := .int .i64 ((pre.length : Int) + 1)) z1 y1 y2 y3 q4 q5 hMs hrne hr'5 hiw hW2 hown hnew.out HU2.out rfl
            obtain ⟨l1, l2, l3, l4, l5, l6, l7, l8⟩ := hlf
            refine ⟨l1, l2, ⟨_, l3, ?_, ?_⟩, ⟨l4, by rw [List.length_append]; exact l5, l6⟩, l7, l8⟩
            · rw [List.map_append, Z2.out, hfin.out]
              simp only [List.map_cons, List.map_nil, fdat, crash1]
              rw [HBL.out, ← HN.out, ← HT.out]
            · rw [List.map_append, List.map_append, Z3.out]
              rfl
  case done =>
    rintro D xs W hD hS ⟨⟨fsp, z1, z2, z3⟩, ⟨y1, y2, y3⟩, q4, q5⟩ hK
    subst hS
    have o1 : W.cell? ⟨ob, 0, none⟩ = some (.pointer (some ⟨g', 0, none⟩)) := y1.cell 0
    have Z2 := hide z2
    clear h h4 h5 hs hbz hl hnd z2 z3
    go_wp2_with fail
    have hgr := grownBy_putObj' W D (.deferred none)
    have hrw : ∀ q, some D = some q → w5.heap.size ≤ q ∧ ∃ o, W.heap[q]? = some o ∧ o.isCells = false := fun r e => by cases e; exact ⟨hD, _, hK, rfl⟩
    refine ⟨by simp, .inl ⟨_, _, rfl, run_takeDeferred hK, ?_⟩⟩
    exact ⟨_, results_tmp rfl _ _ _, g', r', fsp, rfl, z1.grownN hgr hrw hr'5, Z2.out, q4.grown hgr q4.size (fun k e => by cases e; have := hb05.size; omega)⟩
end Go.Proofs.Ytaaaljpnhfmbpaa
