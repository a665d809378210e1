/- The walk of All (package cache). Conditions: those of the theorem. (Printed by wip/gen_cay.py.) -/
import Derived.Test.YthfgblchlgodmaaCaX
namespace Go.Proofs.Ythfgblchlgodmaa
open Go.RowKit
set_option linter.unusedVariables false
set_option linter.unusedSimpArgs false

/-- a row of texts that lies between two blocks -/
def RowAt (w : World) (lo hi : Nat) (A : Option Addr) (n : Nat) (xs : List Value) : Prop := Reads w hi 1 A n xs ∧ (0 < n → ∃ g, A = some ⟨g, 0, none⟩ ∧ lo ≤ g)
/-- what All's iterator holds: keys and scripts, in two rows -/
def AllAt (w : World) (lo hi : Nat) (S : EL) : Prop := ∃ A1 c1 A2 c2, Blk w lo 60 #[.slice A1 S.length c1] ∧ Blk w (lo + 1) 60 #[.slice A2 S.length c2] ∧ RowAt w lo hi A1 S.length (svs (S.map (·.1))) ∧ RowAt w lo hi A2 S.length (svs (S.map (·.2))) ∧ lo + 1 < hi ∧ S.length ≤ c1 ∧ S.length ≤ c2
/-- blocks lo .. hi - 1 stay -/
def Keeps (lo hi : Nat) (W W' : World) : Prop := W.heap.size ≤ W'.heap.size ∧ ∀ k, lo ≤ k → k < hi → W'.heap[k]? = W.heap[k]?
theorem Keeps.trans {lo hi : Nat} {X Y Z : World} (h : Keeps lo hi X Y) (k : Keeps lo hi Y Z) : Keeps lo hi X Z := ⟨Nat.le_trans h.1 k.1, fun q h1 h2 => (k.2 q h1 h2).trans (h.2 q h1 h2)⟩
theorem RowAt.keeps {w w' : World} {lo hi n : Nat} {A : Option Addr} {xs : List Value} (h : RowAt w lo hi A n xs) (hk : Keeps lo hi w w') : RowAt w' lo hi A n xs := by
  obtain ⟨h1, h2⟩ := h
  refine ⟨⟨h1.1, fun h0 => ?_⟩, h2⟩
  obtain ⟨b, o, e, hb, hc⟩ := h1.2 h0
  obtain ⟨g, e', hg⟩ := h2 h0
  rw [e] at e'
  injection e' with e'
  injection e' with e1 e2 _
  subst e1
  exact ⟨b, o, e, hb, fun j u hu => (World.cell?_of_block (a := ⟨b, o + j, none⟩) (hk.2 b hg hb)).trans (hc j u hu)⟩
theorem AllAt.keeps {w w' : World} {lo hi : Nat} {S : EL} (h : AllAt w lo hi S) (hk : Keeps lo hi w w') : AllAt w' lo hi S := by
  obtain ⟨A1, c1, A2, c2, h1, h2, h3, h4, h5, h6⟩ := h
  exact ⟨A1, c1, A2, c2, (hk.2 lo (Nat.le_refl _) (by omega)).trans h1, (hk.2 (lo + 1) (by omega) h5).trans h2, h3.keeps hk, h4.keeps hk, h5, h6⟩
theorem Keeps.below {lo hi B : Nat} {w w' : World} (h : Below B w w') (hB : hi ≤ B) : Keeps lo hi w w' := ⟨h.size, fun k _ h2 => h.block k (by omega)⟩
theorem find_at {S : EL} (hr : Rise S) {t : Nat} {x : ED} (h : S[t]? = some x) : findL S x.1 = some x := find_of hr.names (List.mem_of_getElem? h) rfl
theorem look_map0 {w : World} {r : Nat} {kvs : List KV} {k v : ByteArray} (h : Ms w r kvs) (hl : lookS kvs k = some (.string v)) : (Instr.lookup 71 (.map (some r)) (.string k) false).run Try.prog w = .ok (.string v) w := by
  have := (Ms.lookup (P := Try.prog) Try.underlying71 Try.underlying9 h k zero_str).2
  rw [hl] at this
  exact this

set_option maxHeartbeats 8000000 in
set_option maxRecDepth 20000 in
theorem call_any {g r1 r2 : Nat} {S N : EL} (w : World) (h : CE w g r1 r2 S N) (hn : S.length ≤ 30000) (hs : ∀ x ∈ S, x.1.size ≤ maxLen) :
    Calls Try.prog 18 #[.pointer (some ⟨g, 0, none⟩)] w fun e w' => e = .returned (.func (.func 38) #[] #[.pointer (some ⟨w.heap.size, 0, none⟩), .pointer (some ⟨w.heap.size + 1, 0, none⟩)]) ∧ AllAt w' w.heap.size w'.heap.size S ∧ Below w.heap.size w w' := by
  obtain ⟨ss, ns, hq, p1, p2, s1, s2⟩ := h
  have hglt := hq.1.lt
  have hcg : w.cell? ⟨g, 0, none⟩ = some (.map (some r1)) := hq.1.cell 0
  have k3 := (Blk.new w 60 #[.slice none 0 0]).alloc (.cells #[.slice none 0 0] 60)
  have k4 := Blk.new (w.alloc (.cells #[.slice none 0 0] 60)) 60 #[.slice none 0 0]
  rw [World.size_alloc] at k4
  have hb0 : Below w.heap.size w ((w.alloc (.cells #[.slice none 0 0] 60)).alloc (.cells #[.slice none 0 0] 60)) := ((Below.refl _ w).alloc (Nat.le_refl _) _).alloc (by simp) _
  go_enter Try.func18, Try.ntmps18
  go_upto_region 2 with (fail)
  generalize (w.alloc (.cells #[.slice none 0 0] 60)).alloc (.cells #[.slice none 0 0] 60) = w1 at *
  have hq1 := hq.below hb0
  have c0 : w1.cell? ⟨g, 0, none⟩ = some (.map (some r1)) := hq1.1.cell 0
  have HS := hide (sorted_any w1 hq1.2.1 p1 s1 hn hs)
  go_upto_region 4 with (first
    | (go_at_call 35; refine (cnone_any w1 hq1).mono ?_; rintro e w2 ⟨rfl, rfl⟩)
    | (go_at_call 37
       go_must (
       refine HS.out.mono ?_
       rintro e w3 ⟨v3, rfl, hown3, hb3⟩
       obtain ⟨A1, m1, c1, rfl⟩ := own_sliceN hown3
       have hm1 := own_len2 hown3
       subst hm1
       have hc1 := own_cap hown3
       have hk3 := k3.below hb3 k3.lt
       have q3 := hk3.cell 0
       have f3 := hk3.frozen 0))
    | fail)
  have hk4 := k4.below hb3 k4.lt
  have hbw3 := hb0.trans (hb3.mono hb0.size)
  have hown4 := own_farN hown3 (p := ⟨w.heap.size, 0, none⟩) (own_notN hown3 hk3 (by decide)) (.slice A1 S.length c1)
  have hk34 := hk3.set_ 0 (.slice A1 S.length c1)
  have hk44 := hk4.far (p := ⟨w.heap.size, 0, none⟩) (by show w.heap.size + 1 ≠ w.heap.size; omega) (.slice A1 S.length c1)
  have hbw4 := hbw3.setCell (p := ⟨w.heap.size, 0, none⟩) (Nat.le_refl _) (.slice A1 S.length c1)
  have hne4 : ∀ b o, A1 = some ⟨b, o, none⟩ → b ≠ w.heap.size + 1 := fun b o e e' => by
    subst e
    exact own_notN hown3 hk4 (by decide) (by rw [← e']; rfl)
  have hA1 : 0 < S.length → ∃ g, A1 = some ⟨g, 0, none⟩ ∧ w.heap.size ≤ g := fun h0 => by
    obtain ⟨g', c', e, h1, h2, h3, _⟩ := own_form hown3 h0
    injection e with e
    exact ⟨g', e, Nat.le_trans hb0.size h3⟩
  clear hown3 hk3 q3 f3 hk4 hbw3 hb3 k3 k4 c0 HS hb0 hq1
  have hk34 : Blk (w3.setCell ⟨w.heap.size, 0, none⟩ (.slice A1 S.length c1)) w.heap.size 60 #[.slice A1 S.length c1] := hk34
  generalize w3.setCell ⟨w.heap.size, 0, none⟩ (.slice A1 S.length c1) = w4 at *
  have hrd4 := Reads.of_own hown4
  have q3 := hk34.cell 0
  obtain ⟨B2, hB2⟩ : ∃ B2, B2 = w4.heap.size := ⟨_, rfl⟩
  rw [← hB2] at hrd4
  have HB2 := hide hB2
  have hB0 : w.heap.size ≤ B2 := by rw [hB2]; exact hbw4.size
  have hB2le : B2 ≤ w4.heap.size := by rw [hB2]; exact Nat.le_refl _
  clear hB2 hown4
  go_wp2_with fail
  go_loopw [18] (fun i wr => ∃ t A2 c2, t ≤ S.length ∧ i = .int .i64 (t : Nat) ∧ Blk wr w.heap.size 60 #[.slice A1 S.length c1] ∧ Blk wr (w.heap.size + 1) 60 #[.slice A2 t c2] ∧ wr.ownsRow B2 9 1 (.slice A2 t c2) t (svs ((S.take t).map (·.2))) ∧ Reads wr B2 1 A1 S.length (svs (S.map (·.1))) ∧ Below w.heap.size w wr ∧ B2 ≤ wr.heap.size) (fun i _ => S.length - (intOf i).toNat)
  case atStart => exact ⟨0, none, 0, by omega, rfl, hk34, hk44, World.ownsRow_nil _ _ _ _, hrd4, hbw4, hB2le⟩
  case round =>
    obtain ⟨t, A2, c2, ht, rfl, hK3, hK4, hE2, hR1, hbw, hBz⟩ := hrel
    clear hk34 hk44 hrd4 hbw4 hB2le q3
    by_cases htn : t < S.length
    · have htI : (t : Int) < (S.length : Int) := by omega
      have ht0 : (0 : Int) ≤ (t : Int) := by omega
      have hw2 : IntKind.i64.wrap ((t : Int) + 1) = (t : Int) + 1 := IntWalk.i64_in _ (by omega)
      obtain ⟨b, o, s, rfl, hbb, hst, hcell⟩ := hR1.text htn
      obtain ⟨x, hx⟩ : ∃ x, S[t]? = some x := ⟨S[t]'htn, List.getElem?_eq_getElem _⟩
      obtain rfl : x.1 = s := by
        rw [List.getElem?_map, hx] at hst
        injection hst
      have hqr := hq.below hbw
      have hlk := look_map0 (w := wr.drew) (k := x.1) (v := x.2) (hqr.2.1.drew) (by rw [look_eKV, find_of_perm p1 s1, find_at s1 hx]; rfl)
      have HXS : Hid (svs ((S.take (t + 1)).map (·.2)) = svs ((S.take t).map (·.2)) ++ [.string x.2]) := by
        show _ = _
        rw [take_snocD hx, List.map_append, svs_append]
        rfl
      have hq1 : t + 1 ≤ maxLen := by unfold maxLen; omega
      have hq2 : (t + 1) * 16 ≤ 140737488355328 := by omega
      clear hst hx hqr
      go_upto_region 7 with (fail)
      clear hcell
      have hK4r := hK4
      have hK3 := hK3.drew
      have hK4 := hK4.drew
      have hE2 : wr.drew.ownsRow B2 9 1 (.slice A2 t c2) t (svs ((S.take t).map (·.2))) := hE2
      have hR1 := hR1.drew
      have hbw := hbw.drew
      have hBz : B2 ≤ wr.drew.heap.size := hBz
      refine wp_region_held_drew (S := (fun w' => w'.cell? ⟨g, 0, none⟩ = some (.map (some r1)))) (by kernel_rfl) ?_ (fun hHeld => ?_)
      · exact (hbw.cell (p := ⟨g, 0, none⟩) hglt).trans hcg
      refine wpAnyH_take (i := 1) (v := ?_) rfl (by kernel_rfl) (by kernel_rfl) (by kernel_rfl) (fun _ _ _ h => h) (Or.inl ⟨by rfl, ?hy⟩) (by assumption) ?_
      case hy => (intro w hSw; (try dsimp only at hSw); go_simp; all_goals with_reducible rfl)
      try simp only [Act.put, List.getElem_toArray, List.getElem_cons_succ, List.getElem_cons_zero, List.setIfInBounds_toArray, List.set_cons_zero, List.set_cons_succ]
      refine wpAnyH_take (i := 2) (v := ?_) rfl (by kernel_rfl) (by kernel_rfl) (by kernel_rfl) (fun _ _ _ h => h) (Or.inl ⟨by rfl, ?hy⟩) (by assumption) ?_
      case hy => (intro w hSw; (try dsimp only at hSw); go_simp; all_goals with_reducible rfl)
      try simp only [Act.put, List.getElem_toArray, List.getElem_cons_succ, List.getElem_cons_zero, List.setIfInBounds_toArray, List.set_cons_zero, List.set_cons_succ]
      refine wpAnyH_take (i := 3) (v := ?_) rfl (by kernel_rfl) (by kernel_rfl) (by kernel_rfl) (fun _ _ _ h => h) (Or.inl ⟨by rfl, ?hy⟩) (by assumption) ?_
      case hy => (intro w hSw; (try dsimp only at hSw); go_simp; all_goals with_reducible rfl)
      try simp only [Act.put, List.getElem_toArray, List.getElem_cons_succ, List.getElem_cons_zero, List.setIfInBounds_toArray, List.set_cons_zero, List.set_cons_succ]
      refine wpAnyH_take (i := 4) (v := ?_) rfl (by kernel_rfl) (by kernel_rfl) (by kernel_rfl) (fun _ _ _ h => h) (Or.inl ⟨by rfl, ?hy⟩) (by assumption) ?_
      case hy => (intro w hSw; (try dsimp only at hSw); go_simp; all_goals with_reducible rfl)
      try simp only [Act.put, List.getElem_toArray, List.getElem_cons_succ, List.getElem_cons_zero, List.setIfInBounds_toArray, List.set_cons_zero, List.set_cons_succ]
      refine wpAnyH_take (i := 5) (v := ?_) rfl (by kernel_rfl) (by kernel_rfl) (by kernel_rfl) (fun _ _ _ h => h) (Or.inl ⟨by rfl, ?hy⟩) (by assumption) ?_
      case hy => (intro w hSw; (try dsimp only at hSw); go_simp; all_goals with_reducible rfl)
      try simp only [Act.put, List.getElem_toArray, List.getElem_cons_succ, List.getElem_cons_zero, List.setIfInBounds_toArray, List.set_cons_zero, List.set_cons_succ]
      refine wpAnyH_take (i := 6) (v := ?_) rfl (by kernel_rfl) (by kernel_rfl) (by kernel_rfl) (fun _ _ _ h => h) (Or.inl ⟨by rfl, ?hy⟩) (by assumption) ?_
      case hy => (intro w hSw; (try dsimp only at hSw); go_simp; all_goals with_reducible rfl)
      try simp only [Act.put, List.getElem_toArray, List.getElem_cons_succ, List.getElem_cons_zero, List.setIfInBounds_toArray, List.set_cons_zero, List.set_cons_succ]
      refine wpAnyH_ready (rs := [0, 7]) (by kernel_rfl) (by simp) (AllReadyH.cons rfl (fun K hK => ?_) (AllReadyH.cons rfl (fun K hK => ?_) AllReadyH.nil))
      · (have q4 := hK4.cell 0; have q4r := (hK4r.alloc (.cells #[.string x.2] 9)).cell 0; go_simp)
        refine hK.out _ _ ?_ (fun hHeld => ?_)
        · exact (hbw.cell (p := ⟨g, 0, none⟩) hglt).trans hcg
        clear hK K
        try simp only [Act.put, List.getElem_toArray, List.getElem_cons_succ, List.getElem_cons_zero, List.setIfInBounds_toArray, List.set_cons_zero, List.set_cons_succ]
        refine wpAnyH_ready (rs := [7]) (by kernel_rfl) (by simp) (AllReadyH.cons rfl (fun K hK => ?_) AllReadyH.nil)
        go_simp
        refine hK.out _ _ ?_ (fun hHeld => ?_)
        · exact (hbw.cell (p := ⟨g, 0, none⟩) hglt).trans hcg
        clear hK K
        try simp only [Act.put, List.getElem_toArray, List.getElem_cons_succ, List.getElem_cons_zero, List.setIfInBounds_toArray, List.set_cons_zero, List.set_cons_succ]
        refine wpAnyH_ready (rs := [8]) (by kernel_rfl) (by simp) (AllReadyH.cons rfl (fun K hK => ?_) AllReadyH.nil)
        go_simp
        have hone := Reads.one_new (wr.drew) (.string x.2) 9
        have hE2 : (wr.drew.alloc (.cells #[.string x.2] 9)).ownsRow B2 9 1 _ t (svs ((S.take t).map (·.2))) := hE2.alloc _
        have hK4 := hK4.alloc (.cells #[.string x.2] 9)
        have hK3 := hK3.alloc (.cells #[.string x.2] 9)
        have hR1 := hR1.alloc hBz (.cells #[.string x.2] 9)
        have hbw : Below w.heap.size w (wr.drew.alloc (.cells #[.string x.2] 9)) := hbw.alloc hbw.size _
        have hBz : B2 ≤ (wr.drew.alloc (.cells #[.string x.2] 9)).heap.size := Nat.le_trans hBz (by rw [World.size_alloc]; exact Nat.le_succ _)
        refine hK.out _ _ ?_ (fun hHeld => ?_)
        · exact (hbw.cell (p := ⟨g, 0, none⟩) hglt).trans hcg
        clear hK K
        try simp only [Act.put, List.getElem_toArray, List.getElem_cons_succ, List.getElem_cons_zero, List.setIfInBounds_toArray, List.set_cons_zero, List.set_cons_succ]
        refine wpAnyH_ready (rs := [9]) (by kernel_rfl) (by simp) (AllReadyH.cons rfl (fun K hK => ?_) AllReadyH.nil)
        refine step_append (o := ⟨some 31, _, _, _, _, _⟩) (by rfl) (.tmp 22) (.tmp 30) 60 (by rfl) str_ok Try.underlying60 hE2 (by rfl) hone (by rfl) (by intro u hu; rw [List.mem_singleton.1 hu]; rfl) hq1 hq2 hBz (fun v9 w9 hown9 hb9 hg9 => ?_)
        obtain ⟨A9, m9, c9, rfl⟩ := own_sliceN hown9
        have hm9 := own_len2 hown9
        subst hm9
        have hK4 := hK4.grown hg9 (fun e => own_notN hE2 hK4 (by decide) e.symm)
        have hK3 := hK3.grown hg9 (fun e => own_notN hE2 hK3 (by decide) e.symm)
        have hR1 := hR1.below hb9
        have hbw := hbw.trans (hb9.mono hB0)
        have hBz := Nat.le_trans hBz hb9.size
        refine hK.out _ _ ?_ (fun hHeld => ?_)
        · exact (hbw.cell (p := ⟨g, 0, none⟩) hglt).trans hcg
        clear hK K
        try simp only [Act.put, List.getElem_toArray, List.getElem_cons_succ, List.getElem_cons_zero, List.setIfInBounds_toArray, List.set_cons_zero, List.set_cons_succ]
        refine wpAnyH_ready (rs := [10]) (by kernel_rfl) (by simp) (AllReadyH.cons rfl (fun K hK => ?_) AllReadyH.nil)
        (have q4 := hK4.cell 0; have f4 := hK4.frozen 0; go_simp)
        have hown9 := own_farN hown9 (p := ⟨w.heap.size + 1, 0, none⟩) (own_notN hown9 hK4 (by decide)) (.slice A9 (t + 1) c9)
        have hK3 := hK3.far (p := ⟨w.heap.size + 1, 0, none⟩) (Nat.ne_of_lt (Nat.lt_succ_self _)) (.slice A9 (t + 1) c9)
        have hR1 := hR1.keepAt (w' := (((w9).setCell ⟨w.heap.size + 1, 0, none⟩ (.slice A9 (t + 1) c9)))) (fun b o q e => World.cell?_setCell_other _ _ ⟨b, q, none⟩ _ (fun e' => hne4 b o e (congrArg Addr.block e').symm))
        have hbw := hbw.setCell (p := ⟨w.heap.size + 1, 0, none⟩) (Nat.le_succ _) (.slice A9 (t + 1) c9)
        have hBz : B2 ≤ (((w9).setCell ⟨w.heap.size + 1, 0, none⟩ (.slice A9 (t + 1) c9))).heap.size := by rw [World.size_setCell]; exact hBz
        have hK4 := hK4.set_ 0 (.slice A9 (t + 1) c9)
        refine hK.out _ _ ?_ (fun hHeld => ?_)
        · exact (hbw.cell (p := ⟨g, 0, none⟩) hglt).trans hcg
        clear hK K
        try simp only [Act.put, List.getElem_toArray, List.getElem_cons_succ, List.getElem_cons_zero, List.setIfInBounds_toArray, List.set_cons_zero, List.set_cons_succ]
        refine wpAnyH_done (by kernel_rfl) ?_ _
        generalize (((w9).setCell ⟨w.heap.size + 1, 0, none⟩ (.slice A9 (t + 1) c9))) = w5 at *
        clear hHeld
        have hK4 : Blk w5 (w.heap.size + 1) 60 #[.slice A9 (t + 1) c9] := hK4
        go_simp
        go_wp2_with fail
        go_roundw
        case rel => exact ⟨t + 1, A9, c9, by omega, by simp, hK3, hK4, by rw [HXS.out]; exact hown9, hR1, hbw, hBz⟩
        case measure => simp [intOf]; omega
      · go_simp
        refine hK.out _ _ ?_ (fun hHeld => ?_)
        · exact (hbw.cell (p := ⟨g, 0, none⟩) hglt).trans hcg
        clear hK K
        try simp only [Act.put, List.getElem_toArray, List.getElem_cons_succ, List.getElem_cons_zero, List.setIfInBounds_toArray, List.set_cons_zero, List.set_cons_succ]
        refine wpAnyH_ready (rs := [0, 8]) (by kernel_rfl) (by simp) (AllReadyH.cons rfl (fun K hK => ?_) (AllReadyH.cons rfl (fun K hK => ?_) AllReadyH.nil))
        · (have q4 := hK4.cell 0; have q4r := (hK4r.alloc (.cells #[.string x.2] 9)).cell 0; go_simp)
          refine hK.out _ _ ?_ (fun hHeld => ?_)
          · exact (hbw.cell (p := ⟨g, 0, none⟩) hglt).trans hcg
          clear hK K
          try simp only [Act.put, List.getElem_toArray, List.getElem_cons_succ, List.getElem_cons_zero, List.setIfInBounds_toArray, List.set_cons_zero, List.set_cons_succ]
          refine wpAnyH_ready (rs := [8]) (by kernel_rfl) (by simp) (AllReadyH.cons rfl (fun K hK => ?_) AllReadyH.nil)
          go_simp
          have hone := Reads.one_new (wr.drew) (.string x.2) 9
          have hE2 : (wr.drew.alloc (.cells #[.string x.2] 9)).ownsRow B2 9 1 _ t (svs ((S.take t).map (·.2))) := hE2.alloc _
          have hK4 := hK4.alloc (.cells #[.string x.2] 9)
          have hK3 := hK3.alloc (.cells #[.string x.2] 9)
          have hR1 := hR1.alloc hBz (.cells #[.string x.2] 9)
          have hbw : Below w.heap.size w (wr.drew.alloc (.cells #[.string x.2] 9)) := hbw.alloc hbw.size _
          have hBz : B2 ≤ (wr.drew.alloc (.cells #[.string x.2] 9)).heap.size := Nat.le_trans hBz (by rw [World.size_alloc]; exact Nat.le_succ _)
          refine hK.out _ _ ?_ (fun hHeld => ?_)
          · exact (hbw.cell (p := ⟨g, 0, none⟩) hglt).trans hcg
          clear hK K
          try simp only [Act.put, List.getElem_toArray, List.getElem_cons_succ, List.getElem_cons_zero, List.setIfInBounds_toArray, List.set_cons_zero, List.set_cons_succ]
          refine wpAnyH_ready (rs := [9]) (by kernel_rfl) (by simp) (AllReadyH.cons rfl (fun K hK => ?_) AllReadyH.nil)
          refine step_append (o := ⟨some 31, _, _, _, _, _⟩) (by rfl) (.tmp 22) (.tmp 30) 60 (by rfl) str_ok Try.underlying60 hE2 (by rfl) hone (by rfl) (by intro u hu; rw [List.mem_singleton.1 hu]; rfl) hq1 hq2 hBz (fun v9 w9 hown9 hb9 hg9 => ?_)
          obtain ⟨A9, m9, c9, rfl⟩ := own_sliceN hown9
          have hm9 := own_len2 hown9
          subst hm9
          have hK4 := hK4.grown hg9 (fun e => own_notN hE2 hK4 (by decide) e.symm)
          have hK3 := hK3.grown hg9 (fun e => own_notN hE2 hK3 (by decide) e.symm)
          have hR1 := hR1.below hb9
          have hbw := hbw.trans (hb9.mono hB0)
          have hBz := Nat.le_trans hBz hb9.size
          refine hK.out _ _ ?_ (fun hHeld => ?_)
          · exact (hbw.cell (p := ⟨g, 0, none⟩) hglt).trans hcg
          clear hK K
          try simp only [Act.put, List.getElem_toArray, List.getElem_cons_succ, List.getElem_cons_zero, List.setIfInBounds_toArray, List.set_cons_zero, List.set_cons_succ]
          refine wpAnyH_ready (rs := [10]) (by kernel_rfl) (by simp) (AllReadyH.cons rfl (fun K hK => ?_) AllReadyH.nil)
          (have q4 := hK4.cell 0; have f4 := hK4.frozen 0; go_simp)
          have hown9 := own_farN hown9 (p := ⟨w.heap.size + 1, 0, none⟩) (own_notN hown9 hK4 (by decide)) (.slice A9 (t + 1) c9)
          have hK3 := hK3.far (p := ⟨w.heap.size + 1, 0, none⟩) (Nat.ne_of_lt (Nat.lt_succ_self _)) (.slice A9 (t + 1) c9)
          have hR1 := hR1.keepAt (w' := (((w9).setCell ⟨w.heap.size + 1, 0, none⟩ (.slice A9 (t + 1) c9)))) (fun b o q e => World.cell?_setCell_other _ _ ⟨b, q, none⟩ _ (fun e' => hne4 b o e (congrArg Addr.block e').symm))
          have hbw := hbw.setCell (p := ⟨w.heap.size + 1, 0, none⟩) (Nat.le_succ _) (.slice A9 (t + 1) c9)
          have hBz : B2 ≤ (((w9).setCell ⟨w.heap.size + 1, 0, none⟩ (.slice A9 (t + 1) c9))).heap.size := by rw [World.size_setCell]; exact hBz
          have hK4 := hK4.set_ 0 (.slice A9 (t + 1) c9)
          refine hK.out _ _ ?_ (fun hHeld => ?_)
          · exact (hbw.cell (p := ⟨g, 0, none⟩) hglt).trans hcg
          clear hK K
          try simp only [Act.put, List.getElem_toArray, List.getElem_cons_succ, List.getElem_cons_zero, List.setIfInBounds_toArray, List.set_cons_zero, List.set_cons_succ]
          refine wpAnyH_done (by kernel_rfl) ?_ _
          generalize (((w9).setCell ⟨w.heap.size + 1, 0, none⟩ (.slice A9 (t + 1) c9))) = w5 at *
          clear hHeld
          have hK4 : Blk w5 (w.heap.size + 1) 60 #[.slice A9 (t + 1) c9] := hK4
          go_simp
          go_wp2_with fail
          go_roundw
          case rel => exact ⟨t + 1, A9, c9, by omega, by simp, hK3, hK4, by rw [HXS.out]; exact hown9, hR1, hbw, hBz⟩
          case measure => simp [intOf]; omega
        · go_simp
          have hone := Reads.one_new (wr.drew) (.string x.2) 9
          have hE2 : (wr.drew.alloc (.cells #[.string x.2] 9)).ownsRow B2 9 1 _ t (svs ((S.take t).map (·.2))) := hE2.alloc _
          have hK4 := hK4.alloc (.cells #[.string x.2] 9)
          have hK3 := hK3.alloc (.cells #[.string x.2] 9)
          have hR1 := hR1.alloc hBz (.cells #[.string x.2] 9)
          have hbw : Below w.heap.size w (wr.drew.alloc (.cells #[.string x.2] 9)) := hbw.alloc hbw.size _
          have hBz : B2 ≤ (wr.drew.alloc (.cells #[.string x.2] 9)).heap.size := Nat.le_trans hBz (by rw [World.size_alloc]; exact Nat.le_succ _)
          refine hK.out _ _ ?_ (fun hHeld => ?_)
          · exact (hbw.cell (p := ⟨g, 0, none⟩) hglt).trans hcg
          clear hK K
          try simp only [Act.put, List.getElem_toArray, List.getElem_cons_succ, List.getElem_cons_zero, List.setIfInBounds_toArray, List.set_cons_zero, List.set_cons_succ]
          refine wpAnyH_ready (rs := [0]) (by kernel_rfl) (by simp) (AllReadyH.cons rfl (fun K hK => ?_) AllReadyH.nil)
          (have q4 := hK4.cell 0; have q4r := (hK4r.alloc (.cells #[.string x.2] 9)).cell 0; go_simp)
          refine hK.out _ _ ?_ (fun hHeld => ?_)
          · exact (hbw.cell (p := ⟨g, 0, none⟩) hglt).trans hcg
          clear hK K
          try simp only [Act.put, List.getElem_toArray, List.getElem_cons_succ, List.getElem_cons_zero, List.setIfInBounds_toArray, List.set_cons_zero, List.set_cons_succ]
          refine wpAnyH_ready (rs := [9]) (by kernel_rfl) (by simp) (AllReadyH.cons rfl (fun K hK => ?_) AllReadyH.nil)
          refine step_append (o := ⟨some 31, _, _, _, _, _⟩) (by rfl) (.tmp 22) (.tmp 30) 60 (by rfl) str_ok Try.underlying60 hE2 (by rfl) hone (by rfl) (by intro u hu; rw [List.mem_singleton.1 hu]; rfl) hq1 hq2 hBz (fun v9 w9 hown9 hb9 hg9 => ?_)
          obtain ⟨A9, m9, c9, rfl⟩ := own_sliceN hown9
          have hm9 := own_len2 hown9
          subst hm9
          have hK4 := hK4.grown hg9 (fun e => own_notN hE2 hK4 (by decide) e.symm)
          have hK3 := hK3.grown hg9 (fun e => own_notN hE2 hK3 (by decide) e.symm)
          have hR1 := hR1.below hb9
          have hbw := hbw.trans (hb9.mono hB0)
          have hBz := Nat.le_trans hBz hb9.size
          refine hK.out _ _ ?_ (fun hHeld => ?_)
          · exact (hbw.cell (p := ⟨g, 0, none⟩) hglt).trans hcg
          clear hK K
          try simp only [Act.put, List.getElem_toArray, List.getElem_cons_succ, List.getElem_cons_zero, List.setIfInBounds_toArray, List.set_cons_zero, List.set_cons_succ]
          refine wpAnyH_ready (rs := [10]) (by kernel_rfl) (by simp) (AllReadyH.cons rfl (fun K hK => ?_) AllReadyH.nil)
          (have q4 := hK4.cell 0; have f4 := hK4.frozen 0; go_simp)
          have hown9 := own_farN hown9 (p := ⟨w.heap.size + 1, 0, none⟩) (own_notN hown9 hK4 (by decide)) (.slice A9 (t + 1) c9)
          have hK3 := hK3.far (p := ⟨w.heap.size + 1, 0, none⟩) (Nat.ne_of_lt (Nat.lt_succ_self _)) (.slice A9 (t + 1) c9)
          have hR1 := hR1.keepAt (w' := (((w9).setCell ⟨w.heap.size + 1, 0, none⟩ (.slice A9 (t + 1) c9)))) (fun b o q e => World.cell?_setCell_other _ _ ⟨b, q, none⟩ _ (fun e' => hne4 b o e (congrArg Addr.block e').symm))
          have hbw := hbw.setCell (p := ⟨w.heap.size + 1, 0, none⟩) (Nat.le_succ _) (.slice A9 (t + 1) c9)
          have hBz : B2 ≤ (((w9).setCell ⟨w.heap.size + 1, 0, none⟩ (.slice A9 (t + 1) c9))).heap.size := by rw [World.size_setCell]; exact hBz
          have hK4 := hK4.set_ 0 (.slice A9 (t + 1) c9)
          refine hK.out _ _ ?_ (fun hHeld => ?_)
          · exact (hbw.cell (p := ⟨g, 0, none⟩) hglt).trans hcg
          clear hK K
          try simp only [Act.put, List.getElem_toArray, List.getElem_cons_succ, List.getElem_cons_zero, List.setIfInBounds_toArray, List.set_cons_zero, List.set_cons_succ]
          refine wpAnyH_done (by kernel_rfl) ?_ _
          generalize (((w9).setCell ⟨w.heap.size + 1, 0, none⟩ (.slice A9 (t + 1) c9))) = w5 at *
          clear hHeld
          have hK4 : Blk w5 (w.heap.size + 1) 60 #[.slice A9 (t + 1) c9] := hK4
          go_simp
          go_wp2_with fail
          go_roundw
          case rel => exact ⟨t + 1, A9, c9, by omega, by simp, hK3, hK4, by rw [HXS.out]; exact hown9, hR1, hbw, hBz⟩
          case measure => simp [intOf]; omega
    · have htI : ¬ (t : Int) < (S.length : Int) := by omega
      obtain rfl : t = S.length := by omega
      rw [List.take_of_length_le (Nat.le_refl _)] at hE2
      have hc2 := own_cap hE2
      go_wp2_with fail
      go_ret
      refine ⟨rfl, ⟨A1, c1, A2, c2, hK3, hK4, ⟨hR1.more hBz, hA1⟩, ⟨Reads.of_own hE2, fun h0 => ?_⟩, hK4.lt, hc1, hc2⟩, hbw⟩
      obtain ⟨g', c', e, h1, h2, h3, _⟩ := own_form hE2 h0
      injection e with e
      exact ⟨g', e, Nat.le_trans hB0 h3⟩
end Go.Proofs.Ythfgblchlgodmaa
