/- The walk of the document's Do at a step of one kind (package taborref02). Conditions: those of the theorem. (Printed by wip/gen_dkrb.py.) -/
import Derived.Test.YtaaaljpnhfmbpaaDkRa
import Derived.Laws.Concat
namespace Go.Proofs.Ytaaaljpnhfmbpaa
open Go.RowKit
set_option linter.unusedVariables false

set_option maxHeartbeats 16000000 in
set_option maxRecDepth 20000 in
theorem rdo3 {A M : Option Addr} {n c m mc : Nat} {d : DS} {z : Int} {name tn : ByteArray} {bs : List UInt8} (w : World) (hr : Reads w w.heap.size 3 A n (dvs d.l)) (hn : n ≤ 40000) (hfl : ∀ x ∈ d.l, x.2.1.length ≤ 1048576 ∧ x.2.2 ≤ 1048576) (hs1 : name.size ≤ 140737488351232) (hs2 : tn.size ≤ 140737488351232) (hM : Reads w w.heap.size 1 M m (bvs bs)) (hm : m ≤ 100000000) (hst0 : 0 ≤ d.st) (hst1 : d.st ≤ 1000000000) (hlf0 : 0 ≤ d.lf) (hlf1 : d.lf ≤ 9223372036854775807) :
    Calls Try.prog 26 #[.agg (rdiskV A n c d.st (leftR d)), .agg (rstepV 3 name tn M m mc z)] w fun e w' => (∃ A' n' c', e = .returned (.tuple #[.agg (rdiskV A' n' c' (stepD d name (cmdOf 3 tn bs z)).st (leftR (stepD d name (cmdOf 3 tn bs z)))), .int .i64 (errP d name (cmdOf 3 tn bs z))]) ∧ ((A' = A ∧ n' = n ∧ c' = c ∧ (stepD d name (cmdOf 3 tn bs z)).l = d.l) ∨ w'.ownsRow w.heap.size 27 3 (.slice A' n' c') n' (dvs (stepD d name (cmdOf 3 tn bs z)).l))) ∧ Below w.heap.size w w' := by
  obtain ⟨l, st, en, lf⟩ := d
  dsimp only at hr hfl hst0 hst1 hlf0 hlf1
  have HML : Hid (bs.length = m) := hM.blen
  have HFL := hide hfl
  obtain ⟨lv, hlv⟩ : ∃ lv, lv = leftR ⟨l, st, en, lf⟩ := ⟨_, rfl⟩
  rw [← hlv]
  have HLV := hide hlv
  clear hlv hfl
  have hd0 := ((Blk.new w 51 (rdiskV A n c st lv)).alloc (.cells (rstepV 3 name tn M m mc z) 48)).alloc (.cells #[.slice none 0 0, .int .i64 0, .int .i64 0] 51)
  have hs0 := (Blk.new (w.alloc (.cells (rdiskV A n c st lv) 51)) 48 (rstepV 3 name tn M m mc z)).alloc (.cells #[.slice none 0 0, .int .i64 0, .int .i64 0] 51)
  have hq0 := Blk.new ((w.alloc (.cells (rdiskV A n c st lv) 51)).alloc (.cells (rstepV 3 name tn M m mc z) 48)) 51 #[.slice none 0 0, .int .i64 0, .int .i64 0]
  rw [World.size_alloc] at hs0
  rw [World.size_alloc, World.size_alloc] at hq0
  have hb0 : Below w.heap.size w (((w.alloc (.cells (rdiskV A n c st lv) 51)).alloc (.cells (rstepV 3 name tn M m mc z) 48)).alloc (.cells #[.slice none 0 0, .int .i64 0, .int .i64 0] 51)) := (((Below.refl _ w).alloc (Nat.le_refl _) _).alloc (by simp) _).alloc (by simp; omega) _
  have hbnd : w.heap.size ≤ w.heap.size + 1 + 1 := by omega
  have hrr := hr.below hb0
  have hMM := hM.below hb0
  go_enter Try.func26, Try.ntmps26
  go_upto_region 1 with (fail)
  generalize ((w.alloc (.cells (rdiskV A n c st lv) 51)).alloc (.cells (rstepV 3 name tn M m mc z) 48)).alloc (.cells #[.slice none 0 0, .int .i64 0, .int .i64 0] 51) = W at *
  have d0 : W.cell? ⟨w.heap.size, 0, none⟩ = some (.slice A n c) := hd0.cell 0
  have d1 : W.cell? ⟨w.heap.size, 1, none⟩ = some (.int .i64 st) := hd0.cell 1
  have d2 : W.cell? ⟨w.heap.size, 2, none⟩ = some (.int .i64 lv) := hd0.cell 2
  have s0 : W.cell? ⟨w.heap.size + 1, 0, none⟩ = some (.int .i64 3) := hs0.cell 0
  have s1 : W.cell? ⟨w.heap.size + 1, 1, none⟩ = some (.string name) := hs0.cell 1
  have s2 : W.cell? ⟨w.heap.size + 1, 2, none⟩ = some (.string tn) := hs0.cell 2
  have s3 : W.cell? ⟨w.heap.size + 1, 3, none⟩ = some (.slice M m mc) := hs0.cell 3
  have s4 : W.cell? ⟨w.heap.size + 1, 4, none⟩ = some (.int .i64 z) := hs0.cell 4
  have HRf := hide (rref3 (c := c) (mc := mc) (st := st) (lf := lv) (z := z) (bs := bs) W (hrr.more hb0.size) (by omega) (fun x hx => (HFL.out x hx).1) hs1 hs2 (hMM.more hb0.size) hm)
  clear hr hM
  go_upto_region 2 with (first
    | (go_at_call 42; go_must (refine HRf.out.mono ?_; rintro e w1 ⟨rfl, hb1⟩))
    | fail)
  have hd1 := hd0.below hb1 hd0.lt
  have hs1' := hs0.below hb1 hs0.lt
  have hq1 := hq0.below hb1 hq0.lt
  have hz0 := hb0.size
  have hr1 := hrr.below (hb1.mono hz0)
  have hM1 := hMM.below (hb1.mono hz0)
  have hbw1 : Below w.heap.size w w1 := hb0.trans (hb1.mono hz0)
  clear hd0 hs0 hq0 hb0 hrr hMM HRf hb1 d0 d1 d2 s0 s1 s2 s3 s4
  have d0 : w1.cell? ⟨w.heap.size, 0, none⟩ = some (.slice A n c) := hd1.cell 0
  have d1 : w1.cell? ⟨w.heap.size, 1, none⟩ = some (.int .i64 st) := hd1.cell 1
  have d2 : w1.cell? ⟨w.heap.size, 2, none⟩ = some (.int .i64 lv) := hd1.cell 2
  have s0 : w1.cell? ⟨w.heap.size + 1, 0, none⟩ = some (.int .i64 3) := hs1'.cell 0
  have s1 : w1.cell? ⟨w.heap.size + 1, 1, none⟩ = some (.string name) := hs1'.cell 1
  have s2 : w1.cell? ⟨w.heap.size + 1, 2, none⟩ = some (.string tn) := hs1'.cell 2
  have s3 : w1.cell? ⟨w.heap.size + 1, 3, none⟩ = some (.slice M m mc) := hs1'.cell 3
  have s4 : w1.cell? ⟨w.heap.size + 1, 4, none⟩ = some (.int .i64 z) := hs1'.cell 4
  have q0 : w1.cell? ⟨w.heap.size + 1 + 1, 0, none⟩ = some (.slice none 0 0) := hq1.cell 0
  have q1 : w1.cell? ⟨w.heap.size + 1 + 1, 1, none⟩ = some (.int .i64 0) := hq1.cell 1
  have q2 : w1.cell? ⟨w.heap.size + 1 + 1, 2, none⟩ = some (.int .i64 0) := hq1.cell 2
  have qf := fun i => hq1.frozen i
  obtain ⟨E, hE⟩ : ∃ E, E = refP l name (cmdOf 3 tn bs z) := ⟨_, rfl⟩
  rw [← hE]
  have HE := hide hE
  by_cases hE0 : E = 0
  rotate_left
  · have hEn : (E != 0) = true := by simpa using hE0
    have HER : Hid (errP ⟨l, st, en, lf⟩ name (cmdOf 3 tn bs z) = E) := by show _ = _; unfold errP; rw [if_pos (by show refP l name (cmdOf 3 tn bs z) ≠ 0; rw [← hE]; exact hE0), ← hE]
    have HSD : Hid (stepD ⟨l, st, en, lf⟩ name (cmdOf 3 tn bs z) = ⟨l, st, en, lf⟩) := by show _ = _; unfold stepD; rw [if_neg (by rw [HER.out]; exact hE0)]
    clear hE hE0
    go_wp2_with fail
    have hqz := ((hq1.set_ 0 (.slice A n c)).set_ 1 (.int .i64 st)).set_ 2 (.int .i64 lv)
    have hbz := ((hbw1.setCell (p := ⟨w.heap.size + 1 + 1, 0, none⟩) hbnd (.slice A n c)).setCell (p := ⟨w.heap.size + 1 + 1, 1, none⟩) hbnd (.int .i64 st)).setCell (p := ⟨w.heap.size + 1 + 1, 2, none⟩) hbnd (.int .i64 lv)
    refine bodyPost_cell_tmpD Try.results26 (g := w.heap.size + 1 + 1) (x := .int .i64 E) rfl rfl hqz Try.underlying51 rfl (by kernel_rfl) rfl ⟨⟨A, n, c, ?_, ?_⟩, hbz⟩
    · rw [HSD.out, HER.out, ← HLV.out]; rfl
    · exact .inl ⟨rfl, rfl, rfl, by rw [HSD.out]⟩
  · subst hE0
    have HR0 : Hid (refP l name (cmdOf 3 tn bs z) = 0) := hE.symm
    clear hE
    cases en with
    | false =>
      obtain rfl : lv = -1 := HLV.out
      have HER : Hid (errP ⟨l, st, false, lf⟩ name (cmdOf 3 tn bs z) = 0) := by show _ = _; unfold errP; rw [if_neg (by show ¬ refP l name (cmdOf 3 tn bs z) ≠ 0; rw [HR0.out]; exact fun h => h rfl)]; rfl
      have HSD : Hid (stepD ⟨l, st, false, lf⟩ name (cmdOf 3 tn bs z) = ⟨doP l name (cmdOf 3 tn bs z), st + 1, false, lf⟩) := by show _ = _; unfold stepD; rw [if_pos HER.out]; rfl
      have HLN : Hid (leftR (stepD ⟨l, st, false, lf⟩ name (cmdOf 3 tn bs z)) = -1) := by show _ = _; rw [HSD.out]; rfl
      have hwst : IntKind.i64.wrap (st + 1) = st + 1 := IntWalk.i64_in _ (by omega)
      have df1 := hd1.frozen 1
      go_upto_region 9 with (fail)
      have hd8 := hd1.set_ 1 (.int .i64 (st + 1))
      have hs8 := hs1'.far (p := ⟨w.heap.size, 1, none⟩) (by show w.heap.size + 1 ≠ w.heap.size; omega) (.int .i64 (st + 1))
      have hq8 := hq1.far (p := ⟨w.heap.size, 1, none⟩) (by show w.heap.size + 1 + 1 ≠ w.heap.size; omega) (.int .i64 (st + 1))
      have hb18 : Below w.heap.size w1 (w1.setCell ⟨w.heap.size, 1, none⟩ (.int .i64 (st + 1))) := (Below.refl _ w1).setCell (p := ⟨w.heap.size, 1, none⟩) (Nat.le_refl _) _
      have hd8 : Blk (w1.setCell ⟨w.heap.size, 1, none⟩ (.int .i64 (st + 1))) w.heap.size 51 (rdiskV A n c (st + 1) (-1)) := hd8
      generalize w1.setCell ⟨w.heap.size, 1, none⟩ (.int .i64 (st + 1)) = w8 at *
      have hr8 := hr1.below hb18
      have hM8 := hM1.below hb18
      have hbw8 := hbw1.trans hb18
      clear hd1 hs1' hq1 hr1 hM1 hbw1 hb18 d0 d1 d2 s0 s1 s2 s3 s4 q0 q1 q2 qf df1
      have d0 : w8.cell? ⟨w.heap.size, 0, none⟩ = some (.slice A n c) := hd8.cell 0
      have d1 : w8.cell? ⟨w.heap.size, 1, none⟩ = some (.int .i64 (st + 1)) := hd8.cell 1
      have d2 : w8.cell? ⟨w.heap.size, 2, none⟩ = some (.int .i64 (-1)) := hd8.cell 2
      have s0 : w8.cell? ⟨w.heap.size + 1, 0, none⟩ = some (.int .i64 3) := hs8.cell 0
      have s1 : w8.cell? ⟨w.heap.size + 1, 1, none⟩ = some (.string name) := hs8.cell 1
      have s2 : w8.cell? ⟨w.heap.size + 1, 2, none⟩ = some (.string tn) := hs8.cell 2
      have s3 : w8.cell? ⟨w.heap.size + 1, 3, none⟩ = some (.slice M m mc) := hs8.cell 3
      have s4 : w8.cell? ⟨w.heap.size + 1, 4, none⟩ = some (.int .i64 z) := hs8.cell 4
      have HFd := hide (rfind_any (c := c) (name := name) w8 (hr8.more hbw8.size) (by omega))
      go_upto_region 10 with (first
        | (go_at_call 19; go_must (refine HFd.out.mono ?_; rintro e w22 ⟨⟨zf, rfl, hzf⟩, rfl⟩; have HZF := hide hzf; clear hzf))
        | fail)
      clear HFd
      cases hf : findL l name with
      | none =>
        have hzn : zf = -1 := by
          rcases HZF.out with ⟨_, h⟩ | ⟨k, x, _, _, _, _, h⟩
          · exact h
          · rw [hf] at h; cases h
        exfalso
        have h5 := HR0.out
        unfold refP at h5
        split at h5
        · cases h5
        · simp [cmdOf, Cmd.th, hf] at h5
      | some x =>
        obtain ⟨k, hzk, hkn, hlk⟩ : ∃ k : Nat, zf = k ∧ k < n ∧ l[k]? = some x := by
          rcases HZF.out with ⟨h, _⟩ | ⟨k, y, h1, h2, h3, _, h⟩
          · rw [hf] at h; cases h
          · rw [hf] at h; injection h with h; subst h; exact ⟨k, h1, h2, h3⟩
        subst hzk
        have hxn : x.1 = name := (find_mem hf).2
        have HGL : Hid (getL l name = x) := by show _ = _; unfold getL; rw [hf]; rfl
        obtain ⟨hx1, hx2⟩ := HFL.out x (find_mem hf).1
        have hk0 : decide ((0 : Int) ≤ (k : Int)) = true := decide_eq_true (by omega)
        have hkI : (k : Int) < (n : Int) := by omega
        have hkz : (0 : Int) ≤ (k : Int) := by omega
        go_upto_region 11 with (fail)
        have hF := Blk.new w8 27 #[.string name, .string ⟨#[]⟩, .int .i64 0]
        have hb9 : Below w8.heap.size w8 (w8.alloc (.cells #[.string name, .string ⟨#[]⟩, .int .i64 0] 27)) := (Below.refl _ w8).alloc (Nat.le_refl _) _
        have hd9 := hd8.below hb9 hd8.lt
        have hs9 := hs8.below hb9 hs8.lt
        have hq9 := hq8.below hb9 hq8.lt
        have hz8 := hbw8.size
        have hr9 := hr8.below (hb9.mono hz8)
        have hM9 := hM8.below (hb9.mono hz8)
        have hbw9 := hbw8.trans (hb9.mono hz8)
        obtain ⟨F, hFe, hFw⟩ : ∃ F, F = w8.heap.size ∧ w.heap.size ≤ F := ⟨_, rfl, hz8⟩
        rw [← hFe] at hF
        simp only [← hFe]
        have hFd : F ≠ w.heap.size := by rw [hFe]; have := hd8.lt; omega
        have hFs : F ≠ w.heap.size + 1 := by rw [hFe]; have := hs8.lt; omega
        have hFq : F ≠ w.heap.size + 1 + 1 := by rw [hFe]; have := hq8.lt; omega
        clear d0 d1 d2 s0 s1 s2 s3 s4 hd8 hs8 hq8 hr8 hM8 hbw8 hb9 hz8 hFe
        generalize w8.alloc (.cells #[.string name, .string ⟨#[]⟩, .int .i64 0] 27) = w9 at *
        obtain ⟨bq, oq, y, rfl, hbq, hly, k1, k2, k3⟩ := hr9.dat hkn
        obtain rfl : x = y := by rw [hlk] at hly; injection hly
        obtain ⟨S, hS⟩ : ∃ S : ByteArray, S = ⟨x.2.1.toArray⟩ := ⟨_, rfl⟩
        rw [← hS] at k2
        have HS := hide hS
        rw [hxn] at k1
        clear hf HZF hlk hly hS
        have hf9 := hF
        have d0 : w9.cell? ⟨w.heap.size, 0, none⟩ = some (.slice (some ⟨bq, oq, none⟩) n c) := hd9.cell 0
        have d1 : w9.cell? ⟨w.heap.size, 1, none⟩ = some (.int .i64 (st + 1)) := hd9.cell 1
        have d2 : w9.cell? ⟨w.heap.size, 2, none⟩ = some (.int .i64 (-1)) := hd9.cell 2
        have s0 : w9.cell? ⟨w.heap.size + 1, 0, none⟩ = some (.int .i64 3) := hs9.cell 0
        have s1 : w9.cell? ⟨w.heap.size + 1, 1, none⟩ = some (.string name) := hs9.cell 1
        have s2 : w9.cell? ⟨w.heap.size + 1, 2, none⟩ = some (.string tn) := hs9.cell 2
        have s3 : w9.cell? ⟨w.heap.size + 1, 3, none⟩ = some (.slice M m mc) := hs9.cell 3
        have s4 : w9.cell? ⟨w.heap.size + 1, 4, none⟩ = some (.int .i64 z) := hs9.cell 4
        have f0 : w9.cell? ⟨F, 0, none⟩ = some (.string name) := hf9.cell 0
        have f1 : w9.cell? ⟨F, 1, none⟩ = some (.string ⟨#[]⟩) := hf9.cell 1
        have f2 : w9.cell? ⟨F, 2, none⟩ = some (.int .i64 0) := hf9.cell 2
        have ff := fun i => hf9.frozen i
        go_upto_region 13 with (fail)
        have hf10 := (((hf9.set_ 0 (.string name)).set_ 1 (.string S)).set_ 2 (.int .i64 x.2.2))
        have hd10 := (((hd9.far (p := ⟨F, 0, none⟩) hFd.symm (.string name)).far (p := ⟨F, 1, none⟩) hFd.symm (.string S)).far (p := ⟨F, 2, none⟩) hFd.symm (.int .i64 x.2.2))
        have hs10 := (((hs9.far (p := ⟨F, 0, none⟩) hFs.symm (.string name)).far (p := ⟨F, 1, none⟩) hFs.symm (.string S)).far (p := ⟨F, 2, none⟩) hFs.symm (.int .i64 x.2.2))
        have hq10 := (((hq9.far (p := ⟨F, 0, none⟩) hFq.symm (.string name)).far (p := ⟨F, 1, none⟩) hFq.symm (.string S)).far (p := ⟨F, 2, none⟩) hFq.symm (.int .i64 x.2.2))
        have hbx : Below w.heap.size w9 (((w9.setCell ⟨F, 0, none⟩ (.string name)).setCell ⟨F, 1, none⟩ (.string S)).setCell ⟨F, 2, none⟩ (.int .i64 x.2.2)) := ((((Below.refl w.heap.size w9).setCell (p := ⟨F, 0, none⟩) hFw (.string name)).setCell (p := ⟨F, 1, none⟩) hFw (.string S)).setCell (p := ⟨F, 2, none⟩) hFw (.int .i64 x.2.2))
        have hr10 := hr9.below hbx
        have hM10 := hM9.below hbx
        have hbw10 := hbw9.trans hbx
        clear hbx hd9 hs9 hq9 hr9 hM9 hbw9 d0 d1 d2 s0 s1 s2 s3 s4 f0 f1 f2 ff hf9 hF k1 k2 k3
        generalize (((w9.setCell ⟨F, 0, none⟩ (.string name)).setCell ⟨F, 1, none⟩ (.string S)).setCell ⟨F, 2, none⟩ (.int .i64 x.2.2)) = w10 at *
        have d0 : w10.cell? ⟨w.heap.size, 0, none⟩ = some (.slice (some ⟨bq, oq, none⟩) n c) := hd10.cell 0
        have d1 : w10.cell? ⟨w.heap.size, 1, none⟩ = some (.int .i64 (st + 1)) := hd10.cell 1
        have d2 : w10.cell? ⟨w.heap.size, 2, none⟩ = some (.int .i64 (-1)) := hd10.cell 2
        have s0 : w10.cell? ⟨w.heap.size + 1, 0, none⟩ = some (.int .i64 3) := hs10.cell 0
        have s1 : w10.cell? ⟨w.heap.size + 1, 1, none⟩ = some (.string name) := hs10.cell 1
        have s2 : w10.cell? ⟨w.heap.size + 1, 2, none⟩ = some (.string tn) := hs10.cell 2
        have s3 : w10.cell? ⟨w.heap.size + 1, 3, none⟩ = some (.slice M m mc) := hs10.cell 3
        have s4 : w10.cell? ⟨w.heap.size + 1, 4, none⟩ = some (.int .i64 z) := hs10.cell 4
        have f0 : w10.cell? ⟨F, 0, none⟩ = some (.string name) := hf10.cell 0
        have f1 : w10.cell? ⟨F, 1, none⟩ = some (.string S) := hf10.cell 1
        have f2 : w10.cell? ⟨F, 2, none⟩ = some (.int .i64 x.2.2) := hf10.cell 2
        have ff := fun i => hf10.frozen i
        have hDr := hide (rdrop_any (c := c) (name := name) w10 (hr10.more hbw10.size) (by omega))
        have hFlt := hf10.lt
        have hzb10 := hbw10.size
        go_upto_region 25 with (first
          | (go_at_call 43
             go_must (
             refine hDr.out.mono ?_
             rintro e w12 ⟨v12, rfl, hown12, hb12⟩
             obtain ⟨A12, n12, c12, rfl⟩ := own_sliceN hown12
             have hd12 := hd10.below hb12 hd10.lt
             have e0 := hd12.cell 0
             have ef := hd12.frozen 0))
          | fail)
        have HN12 : Hid (n12 = (dropL l name).length) := own_len3 hown12
        rw [← HN12.out] at hown12
        have hml : n12 ≤ 40000 := by
          have h1 := dropL_len l name
          have h2 := hr10.dlen
          rw [HN12.out]
          omega
        have hs12 := (hs10.below hb12 hs10.lt).far (p := ⟨w.heap.size, 0, none⟩) (by show w.heap.size + 1 ≠ w.heap.size; omega) (.slice A12 n12 c12)
        have hq12 := (hq10.below hb12 hq10.lt).far (p := ⟨w.heap.size, 0, none⟩) (by show w.heap.size + 1 + 1 ≠ w.heap.size; omega) (.slice A12 n12 c12)
        have hf12 := (hf10.below hb12 hf10.lt).far (p := ⟨w.heap.size, 0, none⟩) hFd (.slice A12 n12 c12)
        have hown13 := own_farN hown12 (p := ⟨w.heap.size, 0, none⟩) (own_notN hown12 hd12 (by decide)) (.slice A12 n12 c12)
        have hd13 := hd12.set_ 0 (.slice A12 n12 c12)
        have hbw12 := hbw10.trans (hb12.mono hbw10.size)
        have hb13 : Below w.heap.size w (w12.setCell ⟨w.heap.size, 0, none⟩ (.slice A12 n12 c12)) := hbw12.setCell (p := ⟨w.heap.size, 0, none⟩) (Nat.le_refl _) _
        clear hd12 e0 ef hown12 hb12 hbw12 hDr d0 d1 d2 s0 s1 s2 s3 s4 f0 f1 f2 ff hd10 hs10 hq10 hf10 hr10 hM10 hbw10
        generalize w12.setCell ⟨w.heap.size, 0, none⟩ (.slice A12 n12 c12) = w13 at *
        have s2 : w13.cell? ⟨w.heap.size + 1, 2, none⟩ = some (.string tn) := hs12.cell 2
        have f0 : w13.cell? ⟨F, 0, none⟩ = some (.string name) := hf12.cell 0
        have ff := hf12.frozen 0
        have HDO : Hid (doP l name (cmdOf 3 tn bs z) = withL (dropL l name) (tn, x.2.1, x.2.2)) := by show _ = _; unfold cmdOf doP; simp only; rw [HGL.out]
        go_upto_region 26 with (fail)
        have hown11 := own_farN hown13 (p := ⟨F, 0, none⟩) (fun e => by have h1 := (hown13.lt _ e).1; exact absurd hFlt (by show ¬ F < w10.heap.size; have h1 : w10.heap.size ≤ F := h1; omega)) (.string tn)
        have hf11 := hf12.set_ 0 (.string tn)
        have hd11 := hd13.far (p := ⟨F, 0, none⟩) hFd.symm (.string tn)
        have hq11 := hq12.far (p := ⟨F, 0, none⟩) hFq.symm (.string tn)
        have hbw11 := hb13.setCell (p := ⟨F, 0, none⟩) hFw (.string tn)
        clear hown13 hf12 hs12 hd13 hq12 hb13 s2 f0 ff
        generalize w13.setCell ⟨F, 0, none⟩ (.string tn) = w11 at *
        have hf11 : Blk w11 F 27 #[.string tn, .string ⟨x.2.1.toArray⟩, .int .i64 x.2.2] := by rw [← HS.out]; exact hf11
        have f0 : w11.cell? ⟨F, 0, none⟩ = some (.string tn) := hf11.cell 0
        have f1 : w11.cell? ⟨F, 1, none⟩ = some (.string ⟨x.2.1.toArray⟩) := hf11.cell 1
        have f2 : w11.cell? ⟨F, 2, none⟩ = some (.int .i64 x.2.2) := hf11.cell 2
        have d0 : w11.cell? ⟨w.heap.size, 0, none⟩ = some (.slice A12 n12 c12) := hd11.cell 0
        have hWi := hide (rwith_any (c := c12) (l := dropL l name) (x := (tn, x.2.1, x.2.2)) w11 (Reads.of_own3 hown11) (by omega))
        have hqf := fun i => hq11.frozen i
        have hzb := hbw11.size
        go_upto_region 27 with (first
          | (go_at_call 44
             go_must (
             refine hWi.out.mono ?_
             rintro e w14 ⟨v14, rfl, hown14, hb14⟩
             obtain ⟨A14, n14, c14, rfl⟩ := own_sliceN hown14
             have hd14 := hd11.below hb14 hd11.lt
             have hq14 := hq11.below hb14 hq11.lt
             have e0 := hd14.cell 0
             have e1 := hd14.cell 1
             have e2 := hd14.cell 2
             have ef := hd14.frozen 0))
          | fail)
        have HN14 : Hid (n14 = (withL (dropL l name) ((tn, x.2.1, x.2.2))).length) := own_len3 hown14
        rw [← HN14.out] at hown14
        have hd15 := hd14.set_ 0 (.slice A14 n14 c14)
        have hq15 := hq14.far (p := ⟨w.heap.size, 0, none⟩) (by show w.heap.size + 1 + 1 ≠ w.heap.size; omega) (.slice A14 n14 c14)
        have hbw14 := hbw11.trans (hb14.mono hbw11.size)
        have hb15 : Below w.heap.size w (w14.setCell ⟨w.heap.size, 0, none⟩ (.slice A14 n14 c14)) := hbw14.setCell (p := ⟨w.heap.size, 0, none⟩) (Nat.le_refl _) _
        have hown15 := own_farN hown14 (p := ⟨w.heap.size, 0, none⟩) (own_notN hown14 hd14 (by decide)) (.slice A14 n14 c14)
        clear hd14 hq14 e0 e1 e2 ef hown14 hb14 hbw14 hWi
        generalize w14.setCell ⟨w.heap.size, 0, none⟩ (.slice A14 n14 c14) = w15 at *
        have e0 : w15.cell? ⟨w.heap.size, 0, none⟩ = some (.slice A14 n14 c14) := hd15.cell 0
        have e1 : w15.cell? ⟨w.heap.size, 1, none⟩ = some (.int .i64 (st + 1)) := hd15.cell 1
        have e2 : w15.cell? ⟨w.heap.size, 2, none⟩ = some (.int .i64 (-1)) := hd15.cell 2
        have g0 := hq15.cell 0
        have g1 := hq15.cell 1
        have g2 := hq15.cell 2
        have gf := fun i => hq15.frozen i
        clear hqf
        go_wp2_with fail
        have hqz := ((hq15.set_ 0 (.slice A14 n14 c14)).set_ 1 (.int .i64 (st + 1))).set_ 2 (.int .i64 (-1))
        have hbz := ((hb15.setCell (p := ⟨w.heap.size + 1 + 1, 0, none⟩) hbnd (.slice A14 n14 c14)).setCell (p := ⟨w.heap.size + 1 + 1, 1, none⟩) hbnd (.int .i64 (st + 1))).setCell (p := ⟨w.heap.size + 1 + 1, 2, none⟩) hbnd (.int .i64 (-1))
        refine bodyPost_cell_tmpD Try.results26 (g := w.heap.size + 1 + 1) (x := .int .i64 0) rfl rfl hqz Try.underlying51 rfl (by kernel_rfl) rfl ⟨⟨A14, n14, c14, ?_, ?_⟩, hbz⟩
        · rw [HER.out, HLN.out, HSD.out]; rfl
        · refine .inr ?_
          rw [HSD.out]
          show World.ownsRow _ _ _ 3 (.slice A14 n14 c14) n14 (dvs (doP l name (cmdOf 3 tn bs z)))
          rw [show doP l name (cmdOf 3 tn bs z) = (withL (dropL l name) ((tn, x.2.1, x.2.2))) from HDO.out]
          have ho1 := own_farN hown15 (p := ⟨w.heap.size + 1 + 1, 0, none⟩) (own_notN hown15 hq15 (by decide)) (.slice A14 n14 c14)
          have ho2 := own_farN ho1 (p := ⟨w.heap.size + 1 + 1, 1, none⟩) (own_notN ho1 (hq15.set_ 0 (.slice A14 n14 c14)) (by decide)) (.int .i64 (st + 1))
          have ho3 := own_farN ho2 (p := ⟨w.heap.size + 1 + 1, 2, none⟩) (own_notN ho2 ((hq15.set_ 0 (.slice A14 n14 c14)).set_ 1 (.int .i64 (st + 1))) (by decide)) (.int .i64 (-1))
          exact own_base3 ho3 hzb
    | true =>
      obtain rfl : lv = lf := HLV.out
      by_cases hl0 : lv = 0
      · subst hl0
        have HER : Hid (errP ⟨l, st, true, 0⟩ name (cmdOf 3 tn bs z) = 7) := by show _ = _; unfold errP; rw [if_neg (by show ¬ refP l name (cmdOf 3 tn bs z) ≠ 0; rw [HR0.out]; exact fun h => h rfl)]; rfl
        have HSD : Hid (stepD ⟨l, st, true, 0⟩ name (cmdOf 3 tn bs z) = ⟨l, st, true, 0⟩) := by show _ = _; unfold stepD; rw [if_neg (by rw [HER.out]; decide)]
        go_wp2_with fail
        have hqz := ((hq1.set_ 0 (.slice A n c)).set_ 1 (.int .i64 st)).set_ 2 (.int .i64 0)
        have hbz := ((hbw1.setCell (p := ⟨w.heap.size + 1 + 1, 0, none⟩) hbnd (.slice A n c)).setCell (p := ⟨w.heap.size + 1 + 1, 1, none⟩) hbnd (.int .i64 st)).setCell (p := ⟨w.heap.size + 1 + 1, 2, none⟩) hbnd (.int .i64 0)
        refine bodyPost_cell_tmpD Try.results26 (g := w.heap.size + 1 + 1) (x := .int .i64 7) rfl rfl hqz Try.underlying51 rfl (by kernel_rfl) rfl ⟨⟨A, n, c, ?_, ?_⟩, hbz⟩
        · rw [HSD.out, HER.out]; rfl
        · exact .inl ⟨rfl, rfl, rfl, by rw [HSD.out]⟩
      · have hl1 : (lv == 0) = false := by simpa using hl0
        have hl2 : decide (0 < lv) = true := decide_eq_true (by omega)
        have hwl : IntKind.i64.wrap (lv - 1) = lv - 1 := IntWalk.i64_in _ (by omega)
        have hwst : IntKind.i64.wrap (st + 1) = st + 1 := IntWalk.i64_in _ (by omega)
        have HER : Hid (errP ⟨l, st, true, lv⟩ name (cmdOf 3 tn bs z) = 0) := by show _ = _; unfold errP; rw [if_neg (by show ¬ refP l name (cmdOf 3 tn bs z) ≠ 0; rw [HR0.out]; exact fun h => h rfl), if_neg (by simpa using hl0)]
        have HSD : Hid (stepD ⟨l, st, true, lv⟩ name (cmdOf 3 tn bs z) = ⟨doP l name (cmdOf 3 tn bs z), st + 1, true, lv - 1⟩) := by show _ = _; unfold stepD; rw [if_pos HER.out]; rfl
        have HLN : Hid (leftR (stepD ⟨l, st, true, lv⟩ name (cmdOf 3 tn bs z)) = lv - 1) := by show _ = _; rw [HSD.out]; rfl
        have df1 := hd1.frozen 1
        have df2 := hd1.frozen 2
        have df1' := (hd1.set_ 2 (.int .i64 (lv - 1))).frozen 1
        have e1' : (w1.setCell ⟨w.heap.size, 2, none⟩ (.int .i64 (lv - 1))).cell? ⟨w.heap.size, 1, none⟩ = some (.int .i64 st) := (hd1.set_ 2 (.int .i64 (lv - 1))).cell 1
        clear hl0
        go_upto_region 9 with (fail)
        have hd8 := (hd1.set_ 2 (.int .i64 (lv - 1))).set_ 1 (.int .i64 (st + 1))
        have hs8 := (hs1'.far (p := ⟨w.heap.size, 2, none⟩) (by show w.heap.size + 1 ≠ w.heap.size; omega) (.int .i64 (lv - 1))).far (p := ⟨w.heap.size, 1, none⟩) (by show w.heap.size + 1 ≠ w.heap.size; omega) (.int .i64 (st + 1))
        have hq8 := (hq1.far (p := ⟨w.heap.size, 2, none⟩) (by show w.heap.size + 1 + 1 ≠ w.heap.size; omega) (.int .i64 (lv - 1))).far (p := ⟨w.heap.size, 1, none⟩) (by show w.heap.size + 1 + 1 ≠ w.heap.size; omega) (.int .i64 (st + 1))
        have hb18 : Below w.heap.size w1 ((w1.setCell ⟨w.heap.size, 2, none⟩ (.int .i64 (lv - 1))).setCell ⟨w.heap.size, 1, none⟩ (.int .i64 (st + 1))) := ((Below.refl _ w1).setCell (p := ⟨w.heap.size, 2, none⟩) (Nat.le_refl _) _).setCell (p := ⟨w.heap.size, 1, none⟩) (Nat.le_refl _) _
        have hd8 : Blk ((w1.setCell ⟨w.heap.size, 2, none⟩ (.int .i64 (lv - 1))).setCell ⟨w.heap.size, 1, none⟩ (.int .i64 (st + 1))) w.heap.size 51 (rdiskV A n c (st + 1) (lv - 1)) := hd8
        generalize (w1.setCell ⟨w.heap.size, 2, none⟩ (.int .i64 (lv - 1))).setCell ⟨w.heap.size, 1, none⟩ (.int .i64 (st + 1)) = w8 at *
        have hr8 := hr1.below hb18
        have hM8 := hM1.below hb18
        have hbw8 := hbw1.trans hb18
        clear hd1 hs1' hq1 hr1 hM1 hbw1 hb18 d0 d1 d2 s0 s1 s2 s3 s4 q0 q1 q2 qf df1 df2 df1' e1'
        have d0 : w8.cell? ⟨w.heap.size, 0, none⟩ = some (.slice A n c) := hd8.cell 0
        have d1 : w8.cell? ⟨w.heap.size, 1, none⟩ = some (.int .i64 (st + 1)) := hd8.cell 1
        have d2 : w8.cell? ⟨w.heap.size, 2, none⟩ = some (.int .i64 (lv - 1)) := hd8.cell 2
        have s0 : w8.cell? ⟨w.heap.size + 1, 0, none⟩ = some (.int .i64 3) := hs8.cell 0
        have s1 : w8.cell? ⟨w.heap.size + 1, 1, none⟩ = some (.string name) := hs8.cell 1
        have s2 : w8.cell? ⟨w.heap.size + 1, 2, none⟩ = some (.string tn) := hs8.cell 2
        have s3 : w8.cell? ⟨w.heap.size + 1, 3, none⟩ = some (.slice M m mc) := hs8.cell 3
        have s4 : w8.cell? ⟨w.heap.size + 1, 4, none⟩ = some (.int .i64 z) := hs8.cell 4
        have HFd := hide (rfind_any (c := c) (name := name) w8 (hr8.more hbw8.size) (by omega))
        go_upto_region 10 with (first
          | (go_at_call 19; go_must (refine HFd.out.mono ?_; rintro e w22 ⟨⟨zf, rfl, hzf⟩, rfl⟩; have HZF := hide hzf; clear hzf))
          | fail)
        clear HFd
        cases hf : findL l name with
        | none =>
          have hzn : zf = -1 := by
            rcases HZF.out with ⟨_, h⟩ | ⟨k, x, _, _, _, _, h⟩
            · exact h
            · rw [hf] at h; cases h
          exfalso
          have h5 := HR0.out
          unfold refP at h5
          split at h5
          · cases h5
          · simp [cmdOf, Cmd.th, hf] at h5
        | some x =>
          obtain ⟨k, hzk, hkn, hlk⟩ : ∃ k : Nat, zf = k ∧ k < n ∧ l[k]? = some x := by
            rcases HZF.out with ⟨h, _⟩ | ⟨k, y, h1, h2, h3, _, h⟩
            · rw [hf] at h; cases h
            · rw [hf] at h; injection h with h; subst h; exact ⟨k, h1, h2, h3⟩
          subst hzk
          have hxn : x.1 = name := (find_mem hf).2
          have HGL : Hid (getL l name = x) := by show _ = _; unfold getL; rw [hf]; rfl
          obtain ⟨hx1, hx2⟩ := HFL.out x (find_mem hf).1
          have hk0 : decide ((0 : Int) ≤ (k : Int)) = true := decide_eq_true (by omega)
          have hkI : (k : Int) < (n : Int) := by omega
          have hkz : (0 : Int) ≤ (k : Int) := by omega
          go_upto_region 11 with (fail)
          have hF := Blk.new w8 27 #[.string name, .string ⟨#[]⟩, .int .i64 0]
          have hb9 : Below w8.heap.size w8 (w8.alloc (.cells #[.string name, .string ⟨#[]⟩, .int .i64 0] 27)) := (Below.refl _ w8).alloc (Nat.le_refl _) _
          have hd9 := hd8.below hb9 hd8.lt
          have hs9 := hs8.below hb9 hs8.lt
          have hq9 := hq8.below hb9 hq8.lt
          have hz8 := hbw8.size
          have hr9 := hr8.below (hb9.mono hz8)
          have hM9 := hM8.below (hb9.mono hz8)
          have hbw9 := hbw8.trans (hb9.mono hz8)
          obtain ⟨F, hFe, hFw⟩ : ∃ F, F = w8.heap.size ∧ w.heap.size ≤ F := ⟨_, rfl, hz8⟩
          rw [← hFe] at hF
          simp only [← hFe]
          have hFd : F ≠ w.heap.size := by rw [hFe]; have := hd8.lt; omega
          have hFs : F ≠ w.heap.size + 1 := by rw [hFe]; have := hs8.lt; omega
          have hFq : F ≠ w.heap.size + 1 + 1 := by rw [hFe]; have := hq8.lt; omega
          clear d0 d1 d2 s0 s1 s2 s3 s4 hd8 hs8 hq8 hr8 hM8 hbw8 hb9 hz8 hFe
          generalize w8.alloc (.cells #[.string name, .string ⟨#[]⟩, .int .i64 0] 27) = w9 at *
          obtain ⟨bq, oq, y, rfl, hbq, hly, k1, k2, k3⟩ := hr9.dat hkn
          obtain rfl : x = y := by rw [hlk] at hly; injection hly
          obtain ⟨S, hS⟩ : ∃ S : ByteArray, S = ⟨x.2.1.toArray⟩ := ⟨_, rfl⟩
          rw [← hS] at k2
          have HS := hide hS
          rw [hxn] at k1
          clear hf HZF hlk hly hS
          have hf9 := hF
          have d0 : w9.cell? ⟨w.heap.size, 0, none⟩ = some (.slice (some ⟨bq, oq, none⟩) n c) := hd9.cell 0
          have d1 : w9.cell? ⟨w.heap.size, 1, none⟩ = some (.int .i64 (st + 1)) := hd9.cell 1
          have d2 : w9.cell? ⟨w.heap.size, 2, none⟩ = some (.int .i64 (lv - 1)) := hd9.cell 2
          have s0 : w9.cell? ⟨w.heap.size + 1, 0, none⟩ = some (.int .i64 3) := hs9.cell 0
          have s1 : w9.cell? ⟨w.heap.size + 1, 1, none⟩ = some (.string name) := hs9.cell 1
          have s2 : w9.cell? ⟨w.heap.size + 1, 2, none⟩ = some (.string tn) := hs9.cell 2
          have s3 : w9.cell? ⟨w.heap.size + 1, 3, none⟩ = some (.slice M m mc) := hs9.cell 3
          have s4 : w9.cell? ⟨w.heap.size + 1, 4, none⟩ = some (.int .i64 z) := hs9.cell 4
          have f0 : w9.cell? ⟨F, 0, none⟩ = some (.string name) := hf9.cell 0
          have f1 : w9.cell? ⟨F, 1, none⟩ = some (.string ⟨#[]⟩) := hf9.cell 1
          have f2 : w9.cell? ⟨F, 2, none⟩ = some (.int .i64 0) := hf9.cell 2
          have ff := fun i => hf9.frozen i
          go_upto_region 13 with (fail)
          have hf10 := (((hf9.set_ 0 (.string name)).set_ 1 (.string S)).set_ 2 (.int .i64 x.2.2))
          have hd10 := (((hd9.far (p := ⟨F, 0, none⟩) hFd.symm (.string name)).far (p := ⟨F, 1, none⟩) hFd.symm (.string S)).far (p := ⟨F, 2, none⟩) hFd.symm (.int .i64 x.2.2))
          have hs10 := (((hs9.far (p := ⟨F, 0, none⟩) hFs.symm (.string name)).far (p := ⟨F, 1, none⟩) hFs.symm (.string S)).far (p := ⟨F, 2, none⟩) hFs.symm (.int .i64 x.2.2))
          have hq10 := (((hq9.far (p := ⟨F, 0, none⟩) hFq.symm (.string name)).far (p := ⟨F, 1, none⟩) hFq.symm (.string S)).far (p := ⟨F, 2, none⟩) hFq.symm (.int .i64 x.2.2))
          have hbx : Below w.heap.size w9 (((w9.setCell ⟨F, 0, none⟩ (.string name)).setCell ⟨F, 1, none⟩ (.string S)).setCell ⟨F, 2, none⟩ (.int .i64 x.2.2)) := ((((Below.refl w.heap.size w9).setCell (p := ⟨F, 0, none⟩) hFw (.string name)).setCell (p := ⟨F, 1, none⟩) hFw (.string S)).setCell (p := ⟨F, 2, none⟩) hFw (.int .i64 x.2.2))
          have hr10 := hr9.below hbx
          have hM10 := hM9.below hbx
          have hbw10 := hbw9.trans hbx
          clear hbx hd9 hs9 hq9 hr9 hM9 hbw9 d0 d1 d2 s0 s1 s2 s3 s4 f0 f1 f2 ff hf9 hF k1 k2 k3
          generalize (((w9.setCell ⟨F, 0, none⟩ (.string name)).setCell ⟨F, 1, none⟩ (.string S)).setCell ⟨F, 2, none⟩ (.int .i64 x.2.2)) = w10 at *
          have d0 : w10.cell? ⟨w.heap.size, 0, none⟩ = some (.slice (some ⟨bq, oq, none⟩) n c) := hd10.cell 0
          have d1 : w10.cell? ⟨w.heap.size, 1, none⟩ = some (.int .i64 (st + 1)) := hd10.cell 1
          have d2 : w10.cell? ⟨w.heap.size, 2, none⟩ = some (.int .i64 (lv - 1)) := hd10.cell 2
          have s0 : w10.cell? ⟨w.heap.size + 1, 0, none⟩ = some (.int .i64 3) := hs10.cell 0
          have s1 : w10.cell? ⟨w.heap.size + 1, 1, none⟩ = some (.string name) := hs10.cell 1
          have s2 : w10.cell? ⟨w.heap.size + 1, 2, none⟩ = some (.string tn) := hs10.cell 2
          have s3 : w10.cell? ⟨w.heap.size + 1, 3, none⟩ = some (.slice M m mc) := hs10.cell 3
          have s4 : w10.cell? ⟨w.heap.size + 1, 4, none⟩ = some (.int .i64 z) := hs10.cell 4
          have f0 : w10.cell? ⟨F, 0, none⟩ = some (.string name) := hf10.cell 0
          have f1 : w10.cell? ⟨F, 1, none⟩ = some (.string S) := hf10.cell 1
          have f2 : w10.cell? ⟨F, 2, none⟩ = some (.int .i64 x.2.2) := hf10.cell 2
          have ff := fun i => hf10.frozen i
          have hDr := hide (rdrop_any (c := c) (name := name) w10 (hr10.more hbw10.size) (by omega))
          have hFlt := hf10.lt
          have hzb10 := hbw10.size
          go_upto_region 25 with (first
            | (go_at_call 43
               go_must (
               refine hDr.out.mono ?_
               rintro e w12 ⟨v12, rfl, hown12, hb12⟩
               obtain ⟨A12, n12, c12, rfl⟩ := own_sliceN hown12
               have hd12 := hd10.below hb12 hd10.lt
               have e0 := hd12.cell 0
               have ef := hd12.frozen 0))
            | fail)
          have HN12 : Hid (n12 = (dropL l name).length) := own_len3 hown12
          rw [← HN12.out] at hown12
          have hml : n12 ≤ 40000 := by
            have h1 := dropL_len l name
            have h2 := hr10.dlen
            rw [HN12.out]
            omega
          have hs12 := (hs10.below hb12 hs10.lt).far (p := ⟨w.heap.size, 0, none⟩) (by show w.heap.size + 1 ≠ w.heap.size; omega) (.slice A12 n12 c12)
          have hq12 := (hq10.below hb12 hq10.lt).far (p := ⟨w.heap.size, 0, none⟩) (by show w.heap.size + 1 + 1 ≠ w.heap.size; omega) (.slice A12 n12 c12)
          have hf12 := (hf10.below hb12 hf10.lt).far (p := ⟨w.heap.size, 0, none⟩) hFd (.slice A12 n12 c12)
          have hown13 := own_farN hown12 (p := ⟨w.heap.size, 0, none⟩) (own_notN hown12 hd12 (by decide)) (.slice A12 n12 c12)
          have hd13 := hd12.set_ 0 (.slice A12 n12 c12)
          have hbw12 := hbw10.trans (hb12.mono hbw10.size)
          have hb13 : Below w.heap.size w (w12.setCell ⟨w.heap.size, 0, none⟩ (.slice A12 n12 c12)) := hbw12.setCell (p := ⟨w.heap.size, 0, none⟩) (Nat.le_refl _) _
          clear hd12 e0 ef hown12 hb12 hbw12 hDr d0 d1 d2 s0 s1 s2 s3 s4 f0 f1 f2 ff hd10 hs10 hq10 hf10 hr10 hM10 hbw10
          generalize w12.setCell ⟨w.heap.size, 0, none⟩ (.slice A12 n12 c12) = w13 at *
          have s2 : w13.cell? ⟨w.heap.size + 1, 2, none⟩ = some (.string tn) := hs12.cell 2
          have f0 : w13.cell? ⟨F, 0, none⟩ = some (.string name) := hf12.cell 0
          have ff := hf12.frozen 0
          have HDO : Hid (doP l name (cmdOf 3 tn bs z) = withL (dropL l name) (tn, x.2.1, x.2.2)) := by show _ = _; unfold cmdOf doP; simp only; rw [HGL.out]
          go_upto_region 26 with (fail)
          have hown11 := own_farN hown13 (p := ⟨F, 0, none⟩) (fun e => by have h1 := (hown13.lt _ e).1; exact absurd hFlt (by show ¬ F < w10.heap.size; have h1 : w10.heap.size ≤ F := h1; omega)) (.string tn)
          have hf11 := hf12.set_ 0 (.string tn)
          have hd11 := hd13.far (p := ⟨F, 0, none⟩) hFd.symm (.string tn)
          have hq11 := hq12.far (p := ⟨F, 0, none⟩) hFq.symm (.string tn)
          have hbw11 := hb13.setCell (p := ⟨F, 0, none⟩) hFw (.string tn)
          clear hown13 hf12 hs12 hd13 hq12 hb13 s2 f0 ff
          generalize w13.setCell ⟨F, 0, none⟩ (.string tn) = w11 at *
          have hf11 : Blk w11 F 27 #[.string tn, .string ⟨x.2.1.toArray⟩, .int .i64 x.2.2] := by rw [← HS.out]; exact hf11
          have f0 : w11.cell? ⟨F, 0, none⟩ = some (.string tn) := hf11.cell 0
          have f1 : w11.cell? ⟨F, 1, none⟩ = some (.string ⟨x.2.1.toArray⟩) := hf11.cell 1
          have f2 : w11.cell? ⟨F, 2, none⟩ = some (.int .i64 x.2.2) := hf11.cell 2
          have d0 : w11.cell? ⟨w.heap.size, 0, none⟩ = some (.slice A12 n12 c12) := hd11.cell 0
          have hWi := hide (rwith_any (c := c12) (l := dropL l name) (x := (tn, x.2.1, x.2.2)) w11 (Reads.of_own3 hown11) (by omega))
          have hqf := fun i => hq11.frozen i
          have hzb := hbw11.size
          go_upto_region 27 with (first
            | (go_at_call 44
               go_must (
               refine hWi.out.mono ?_
               rintro e w14 ⟨v14, rfl, hown14, hb14⟩
               obtain ⟨A14, n14, c14, rfl⟩ := own_sliceN hown14
               have hd14 := hd11.below hb14 hd11.lt
               have hq14 := hq11.below hb14 hq11.lt
               have e0 := hd14.cell 0
               have e1 := hd14.cell 1
               have e2 := hd14.cell 2
               have ef := hd14.frozen 0))
            | fail)
          have HN14 : Hid (n14 = (withL (dropL l name) ((tn, x.2.1, x.2.2))).length) := own_len3 hown14
          rw [← HN14.out] at hown14
          have hd15 := hd14.set_ 0 (.slice A14 n14 c14)
          have hq15 := hq14.far (p := ⟨w.heap.size, 0, none⟩) (by show w.heap.size + 1 + 1 ≠ w.heap.size; omega) (.slice A14 n14 c14)
          have hbw14 := hbw11.trans (hb14.mono hbw11.size)
          have hb15 : Below w.heap.size w (w14.setCell ⟨w.heap.size, 0, none⟩ (.slice A14 n14 c14)) := hbw14.setCell (p := ⟨w.heap.size, 0, none⟩) (Nat.le_refl _) _
          have hown15 := own_farN hown14 (p := ⟨w.heap.size, 0, none⟩) (own_notN hown14 hd14 (by decide)) (.slice A14 n14 c14)
          clear hd14 hq14 e0 e1 e2 ef hown14 hb14 hbw14 hWi
          generalize w14.setCell ⟨w.heap.size, 0, none⟩ (.slice A14 n14 c14) = w15 at *
          have e0 : w15.cell? ⟨w.heap.size, 0, none⟩ = some (.slice A14 n14 c14) := hd15.cell 0
          have e1 : w15.cell? ⟨w.heap.size, 1, none⟩ = some (.int .i64 (st + 1)) := hd15.cell 1
          have e2 : w15.cell? ⟨w.heap.size, 2, none⟩ = some (.int .i64 (lv - 1)) := hd15.cell 2
          have g0 := hq15.cell 0
          have g1 := hq15.cell 1
          have g2 := hq15.cell 2
          have gf := fun i => hq15.frozen i
          clear hqf
          go_wp2_with fail
          have hqz := ((hq15.set_ 0 (.slice A14 n14 c14)).set_ 1 (.int .i64 (st + 1))).set_ 2 (.int .i64 (lv - 1))
          have hbz := ((hb15.setCell (p := ⟨w.heap.size + 1 + 1, 0, none⟩) hbnd (.slice A14 n14 c14)).setCell (p := ⟨w.heap.size + 1 + 1, 1, none⟩) hbnd (.int .i64 (st + 1))).setCell (p := ⟨w.heap.size + 1 + 1, 2, none⟩) hbnd (.int .i64 (lv - 1))
          refine bodyPost_cell_tmpD Try.results26 (g := w.heap.size + 1 + 1) (x := .int .i64 0) rfl rfl hqz Try.underlying51 rfl (by kernel_rfl) rfl ⟨⟨A14, n14, c14, ?_, ?_⟩, hbz⟩
          · rw [HER.out, HLN.out, HSD.out]; rfl
          · refine .inr ?_
            rw [HSD.out]
            show World.ownsRow _ _ _ 3 (.slice A14 n14 c14) n14 (dvs (doP l name (cmdOf 3 tn bs z)))
            rw [show doP l name (cmdOf 3 tn bs z) = (withL (dropL l name) ((tn, x.2.1, x.2.2))) from HDO.out]
            have ho1 := own_farN hown15 (p := ⟨w.heap.size + 1 + 1, 0, none⟩) (own_notN hown15 hq15 (by decide)) (.slice A14 n14 c14)
            have ho2 := own_farN ho1 (p := ⟨w.heap.size + 1 + 1, 1, none⟩) (own_notN ho1 (hq15.set_ 0 (.slice A14 n14 c14)) (by decide)) (.int .i64 (st + 1))
            have ho3 := own_farN ho2 (p := ⟨w.heap.size + 1 + 1, 2, none⟩) (own_notN ho2 ((hq15.set_ 0 (.slice A14 n14 c14)).set_ 1 (.int .i64 (st + 1))) (by decide)) (.int .i64 (lv - 1))
            exact own_base3 ho3 hzb
end Go.Proofs.Ytaaaljpnhfmbpaa
