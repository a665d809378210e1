/- The walk of Read (package frames): its deferred function, and it. Conditions: those of each theorem. -/
import Derived.Test.YtbpodmgogokpiaaFrG
import Derived.Defers
import Derived.Recover
namespace Go.Proofs.Ytbpodmgogokpiaa
open Go.RowKit
set_option linter.unusedVariables false

theorem catch_idle (p q r : Nat) (w : World) :
    CallsD Try.prog 33 #[.pointer (some ⟨p, 0, none⟩), .pointer (some ⟨q, 0, none⟩), .pointer (some ⟨r, 0, none⟩)] .returning w fun e u' w' => e = .returned (.tuple #[]) ∧ u' = .returning ∧ w = w' := by
  refine callsD_of_wpS Try.func33 rfl fun c₀ cs hu => ?_
  apply wpS_seq
  apply wpS_region
  simp [wpOpsS, go_sem, recoverD, hu, Try.ntmps33, Exit.thenS, Array.replicate_succ]
  refine wpS_of_wp ?_
  go_wp2_with fail
  cases c₀
  simp_all [bodyPostS, results, Try.results33]
theorem Blk.put1 {w : World} {g : Nat} {t : TypeId} {x v : Value} (h : Blk w g t #[x]) : Blk (w.setCell ⟨g, 0, none⟩ v) g t #[v] := h.set_ 0 v
theorem catch_panicking (p q r k : Nat) (A : Option Addr) (n c : Nat) (i j : Int) (w : World) (hp : Blk w p 22 #[.slice A n c]) (hq : Blk w q 3 #[.int .i64 i]) (hr : Blk w r 26 #[.int .i64 j]) :
    CallsD Try.prog 33 #[.pointer (some ⟨p, 0, none⟩), .pointer (some ⟨q, 0, none⟩), .pointer (some ⟨r, 0, none⟩)] (.panicking (failC k)) w fun e u' w' => e = .returned (.tuple #[]) ∧ u' = .panicking [{ v := .iface 57 (.agg #[.int .i64 k]), recovered := true }] ∧ Blk w' p 22 #[.slice none 0 0] ∧ Blk w' q 3 #[.int .i64 0] ∧ Blk w' r 26 #[.int .i64 k] ∧ ∀ B, B ≤ p → B ≤ q → B ≤ r → B ≤ w.heap.size → Below B w w' := by
  unfold failC
  have hta : ∀ w, (Instr.typeAssert (.iface 57 (.agg #[.int .i64 (k : Int)])) 20 57 true).run Try.prog w = .ok (.tuple #[.agg #[.int .i64 (k : Int)], .bool true]) w := fun w => by rfl
  have f1 := hp.frozen 0
  have f2 := hq.frozen 0
  have f3 := hr.frozen 0
  have d1 := hp.cell 0
  have d2 := hq.cell 0
  have d3 := hr.cell 0
  rw [show (#[Value.slice A n c] : Array Value)[0]? = some (.slice A n c) from rfl] at d1
  rw [show (#[Value.int .i64 i] : Array Value)[0]? = some (.int .i64 i) from rfl] at d2
  rw [show (#[Value.int .i64 j] : Array Value)[0]? = some (.int .i64 j) from rfl] at d3
  have p1 : p < w.heap.size := hp.lt
  have p2 : q < w.heap.size := hq.lt
  have p3 : r < w.heap.size := hr.lt
  refine callsD_of_wpS Try.func33 rfl fun c₀ cs hu => ?_
  apply wpS_seq
  apply wpS_region
  simp [wpOpsS, go_sem, recoverD, hu, Try.ntmps33, Exit.thenS, Array.replicate_succ]
  refine wpS_of_wp ?_
  go_wp2_with fail
  have hp1 := hp.alloc (.cells #[.int .i64 (k : Int)] 57)
  have hq1 := hq.alloc (.cells #[.int .i64 (k : Int)] 57)
  have hr1 := hr.alloc (.cells #[.int .i64 (k : Int)] 57)
  have hf1 := Blk.new w 57 #[.int .i64 (k : Int)]
  have hb1 : ∀ B, B ≤ w.heap.size → Below B w (w.alloc (.cells #[.int .i64 (k : Int)] 57)) := fun B h => (Below.refl _ w).alloc h _
  have HB1 := hide hb1
  clear hb1 hta f1 f2 f3 d1 d2 d3
  generalize w.alloc (.cells #[.int .i64 (k : Int)] 57) = w1 at *
  have f1 := hp1.frozen 0
  have f2 := hq1.frozen 0
  have f3 := hr1.frozen 0
  have d1 := hp1.cell 0
  have d2 := hq1.cell 0
  have d3 := hr1.cell 0
  have d4 := hf1.cell 0
  rw [show (#[Value.slice A n c] : Array Value)[0]? = some (.slice A n c) from rfl] at d1
  rw [show (#[Value.int .i64 i] : Array Value)[0]? = some (.int .i64 i) from rfl] at d2
  rw [show (#[Value.int .i64 j] : Array Value)[0]? = some (.int .i64 j) from rfl] at d3
  rw [show (#[Value.int .i64 (k : Int)] : Array Value)[0]? = some (.int .i64 (k : Int)) from rfl] at d4
  have n12 : p ≠ q := hp1.ne_ hq1 (by decide)
  have n13 : p ≠ r := hp1.ne_ hr1 (by decide)
  have n23 : q ≠ r := hq1.ne_ hr1 (by decide)
  have n21 : ¬ q = p := n12.symm
  have n31 : ¬ r = p := n13.symm
  have n32 : ¬ r = q := n23.symm
  go_region
  have HB4 : Hid (∀ B, B ≤ p → B ≤ q → B ≤ r → B ≤ w.heap.size → Below B w (((w1.setCell ⟨p, 0, none⟩ (.slice none 0 0)).setCell ⟨q, 0, none⟩ (.int .i64 0)).setCell ⟨r, 0, none⟩ (.int .i64 k)).drew) := fun B h1 h2 h3 h4 => ((((HB1.out B h4).setCell (p := ⟨p, 0, none⟩) h1 _).setCell (p := ⟨q, 0, none⟩) h2 _).setCell (p := ⟨r, 0, none⟩) h3 _).drew
  have hP4 := (((Blk.put1 (v := .slice none 0 0) hp1).far (p := ⟨q, 0, none⟩) n12 (.int .i64 0)).far (p := ⟨r, 0, none⟩) n13 (.int .i64 k)).drew
  have hQ4 := ((Blk.put1 (v := .int .i64 0) (hq1.far (p := ⟨p, 0, none⟩) n21 (.slice none 0 0))).far (p := ⟨r, 0, none⟩) n23 (.int .i64 k)).drew
  have hR4 := (Blk.put1 (v := .int .i64 k) ((hr1.far (p := ⟨p, 0, none⟩) n31 (.slice none 0 0)).far (p := ⟨q, 0, none⟩) n32 (.int .i64 0))).drew
  generalize (((w1.setCell ⟨p, 0, none⟩ (.slice none 0 0)).setCell ⟨q, 0, none⟩ (.int .i64 0)).setCell ⟨r, 0, none⟩ (.int .i64 k)).drew = w4 at *
  refine ⟨rfl, .panicking [{ v := .iface 57 (.agg #[.int .i64 (k : Int)]), recovered := true }], ?_, .tuple #[], results_none rfl _ _ _, rfl, rfl, hP4, hQ4, hR4, HB4.out⟩
  cases c₀
  simp_all

theorem readF_le {b : List UInt8} {l : List ByteArray} {k : Nat} (h : readF b = .inr (l, k)) : 8 ≤ k ∧ k ≤ b.length := by
  unfold readF at h
  split at h
  · cases h
  · split at h
    · cases h
    · split at h
      · cases h
      · split at h
        · cases h
        · split at h
          · cases h
          · injection h with h
            injection h with h1 h2
            omega

/-- a statement whose ends have one frame -/
theorem wp_to {P : Program} {c : Code} {Q : Exit → Act → World → Prop} {a : Act} {w : World} (fr : Act) (R : World → Prop) (h1 : c.wp P (fun e a w => e = .normal ∧ a = fr ∧ R w) a w) (h2 : ∀ w, R w → Q .normal fr w) : c.wp P Q a w :=
  Code.wp_mono (fun e a w ⟨he, ha, hr⟩ => by subst he ha; exact h2 w hr) h1
set_option maxHeartbeats 4000000 in
theorem read_no (A : Option Addr) (n c e : Nat) (b : List UInt8) (w : World) (hr : Reads w w.heap.size 1 A n (bvs b)) (hc : n ≤ c) (hcm : c ≤ maxLen) (hn : n ≤ 100000000) (hx : readF b = .inl e) :
    Calls Try.prog 17 #[.slice A n c] w fun x w' => x = .returned (.tuple #[.slice none 0 0, .int .i64 0, .int .i64 e]) ∧ Below w.heap.size w w' := by
  have HX := hide hx
  clear hx
  have hmf : ∀ (fn : Fn) (first cap : Array Value) (w : World), (Instr.makeFunc fn first cap).run Try.prog w = .ok (.func fn first cap) w := fun _ _ _ _ => rfl
  go_enter_defers Try.func17, Try.ntmps17
  have hP := (((Blk.new w 22 #[.slice none 0 0]).alloc (.cells #[.int .i64 0] 3)).alloc (.cells #[.int .i64 0] 26)).alloc (.cells #[.slice A n c, .int .i64 120, .int .i64 n] 62)
  have hQ := ((Blk.new (w.alloc (.cells #[.slice none 0 0] 22)) 3 #[.int .i64 0]).alloc (.cells #[.int .i64 0] 26)).alloc (.cells #[.slice A n c, .int .i64 120, .int .i64 n] 62)
  have hR := (Blk.new ((w.alloc (.cells #[.slice none 0 0] 22)).alloc (.cells #[.int .i64 0] 3)) 26 #[.int .i64 0]).alloc (.cells #[.slice A n c, .int .i64 120, .int .i64 n] 62)
  have hG := Blk.new (((w.alloc (.cells #[.slice none 0 0] 22)).alloc (.cells #[.int .i64 0] 3)).alloc (.cells #[.int .i64 0] 26)) 62 #[.slice A n c, .int .i64 120, .int .i64 n]
  simp only [World.size_alloc] at hQ hR hG
  have hb4 : Below w.heap.size w ((((w.alloc (.cells #[.slice none 0 0] 22)).alloc (.cells #[.int .i64 0] 3)).alloc (.cells #[.int .i64 0] 26)).alloc (.cells #[.slice A n c, .int .i64 120, .int .i64 n] 62)) := ((((Below.refl _ w).alloc (Nat.le_refl _) _).alloc (by simp) _).alloc (by simp; omega) _).alloc (by simp; omega) _
  have hr4 := hr.below hb4
  go_wp2_with fail
  generalize ((((w.alloc (.cells #[.slice none 0 0] 22)).alloc (.cells #[.int .i64 0] 3)).alloc (.cells #[.int .i64 0] 26)).alloc (.cells #[.slice A n c, .int .i64 120, .int .i64 n] 62)) = w4 at *
  have hz4 : w.heap.size + 1 + 1 + 1 < w4.heap.size := hG.lt
  refine (frame_any (w.heap.size + 1 + 1 + 1) A n c n b w4 hG (hr4.more (by omega)) hc hcm hn).mono ?_
  rintro x w5 ⟨hPo, hb5⟩
  unfold FramePost at hPo
  rw [HX.out] at hPo
  subst hPo
  have hP5 := hP.below hb5 (by omega)
  have hQ5 := hQ.below hb5 (by omega)
  have hR5 := hR.below hb5 (by omega)
  have hbw5 := hb4.trans (hb5.mono (by omega))
  go_wp2_with fail
  refine leaves_cons (f := 33) (args := #[.pointer (some ⟨w.heap.size, 0, none⟩), .pointer (some ⟨w.heap.size + 1, 0, none⟩), .pointer (some ⟨w.heap.size + 1 + 1, 0, none⟩)]) (by simp) (by simp [go_sem]) ?_
  refine (catch_panicking _ _ _ e none 0 0 0 0 _ hP5 hQ5 hR5).mono ?_
  rintro x u' w6 ⟨rfl, rfl, h1, h2, h3, h4⟩
  have c1 := h1.cell 0
  have c2 := h2.cell 0
  have c3 := h3.cell 0
  rw [show (#[Value.slice none 0 0] : Array Value)[0]? = some (.slice none 0 0) from rfl] at c1
  rw [show (#[Value.int .i64 0] : Array Value)[0]? = some (.int .i64 0) from rfl] at c2
  rw [show (#[Value.int .i64 (e : Int)] : Array Value)[0]? = some (.int .i64 (e : Int)) from rfl] at c3
  simp [Leaves, settle, results, Try.results17, go_sem, c1, c2, c3]
  exact hbw5.trans (h4 _ (Nat.le_refl _) (by omega) (by omega) hbw5.size)
set_option maxHeartbeats 4000000 in
theorem read_yes (A : Option Addr) (n c k : Nat) (l : List ByteArray) (b : List UInt8) (w : World) (hr : Reads w w.heap.size 1 A n (bvs b)) (hc : n ≤ c) (hcm : c ≤ maxLen) (hn : n ≤ 100000000) (hx : readF b = .inr (l, k)) :
    Calls Try.prog 17 #[.slice A n c] w fun x w' => ∃ v, x = .returned (.tuple #[v, .int .i64 k, .int .i64 0]) ∧ w'.ownsRow w.heap.size 9 1 v l.length (svs l) ∧ Below w.heap.size w w' := by
  have hkn := (readF_le hx).2
  rw [hr.blen] at hkn
  have HX := hide hx
  clear hx
  have hmf : ∀ (fn : Fn) (first cap : Array Value) (w : World), (Instr.makeFunc fn first cap).run Try.prog w = .ok (.func fn first cap) w := fun _ _ _ _ => rfl
  go_enter_defers Try.func17, Try.ntmps17
  have hP := (((Blk.new w 22 #[.slice none 0 0]).alloc (.cells #[.int .i64 0] 3)).alloc (.cells #[.int .i64 0] 26)).alloc (.cells #[.slice A n c, .int .i64 120, .int .i64 n] 62)
  have hQ := ((Blk.new (w.alloc (.cells #[.slice none 0 0] 22)) 3 #[.int .i64 0]).alloc (.cells #[.int .i64 0] 26)).alloc (.cells #[.slice A n c, .int .i64 120, .int .i64 n] 62)
  have hR := (Blk.new ((w.alloc (.cells #[.slice none 0 0] 22)).alloc (.cells #[.int .i64 0] 3)) 26 #[.int .i64 0]).alloc (.cells #[.slice A n c, .int .i64 120, .int .i64 n] 62)
  have hG := Blk.new (((w.alloc (.cells #[.slice none 0 0] 22)).alloc (.cells #[.int .i64 0] 3)).alloc (.cells #[.int .i64 0] 26)) 62 #[.slice A n c, .int .i64 120, .int .i64 n]
  simp only [World.size_alloc] at hQ hR hG
  have hb4 : Below w.heap.size w ((((w.alloc (.cells #[.slice none 0 0] 22)).alloc (.cells #[.int .i64 0] 3)).alloc (.cells #[.int .i64 0] 26)).alloc (.cells #[.slice A n c, .int .i64 120, .int .i64 n] 62)) := ((((Below.refl _ w).alloc (Nat.le_refl _) _).alloc (by simp) _).alloc (by simp; omega) _).alloc (by simp; omega) _
  have hr4 := hr.below hb4
  go_wp2_with fail
  generalize ((((w.alloc (.cells #[.slice none 0 0] 22)).alloc (.cells #[.int .i64 0] 3)).alloc (.cells #[.int .i64 0] 26)).alloc (.cells #[.slice A n c, .int .i64 120, .int .i64 n] 62)) = w4 at *
  have hz4 : w.heap.size + 1 + 1 + 1 < w4.heap.size := hG.lt
  refine (frame_any (w.heap.size + 1 + 1 + 1) A n c n b w4 hG (hr4.more (by omega)) hc hcm hn).mono ?_
  rintro x w5 ⟨hPo, hb5⟩
  unfold FramePost at hPo
  rw [HX.out] at hPo
  obtain ⟨v, A2, c2, rfl, ho5, hG5⟩ := hPo
  have hP5 := hP.below hb5 (by omega)
  have hQ5 := hQ.below hb5 (by omega)
  have hR5 := hR.below hb5 (by omega)
  have hbw5 := hb4.trans (hb5.mono (by omega))
  have hvo : ∀ j, v.ownBlock = some j → w4.heap.size ≤ j := fun j e => (ho5.lt j e).1
  obtain ⟨Av, cv, rfl, hcv1, hcv2⟩ := own_slice ho5
  clear hP hQ hR hG hb4 hr4 hr
  have hP6 := Blk.put1 (v := .slice Av l.length cv) hP5
  have hQ6 := hQ5.far (p := ⟨w.heap.size, 0, none⟩) (by simp) (.slice Av l.length cv)
  have hR6 := hR5.far (p := ⟨w.heap.size, 0, none⟩) (by simp; omega) (.slice Av l.length cv)
  have hG6 := hG5.far (p := ⟨w.heap.size, 0, none⟩) (by simp; omega) (.slice Av l.length cv)
  have ho6 := own_far ho5 (p := ⟨w.heap.size, 0, none⟩) (fun e => by have := hvo _ e; simp at this; omega) (.slice Av l.length cv)
  have hbw6 : Below w.heap.size w (w5.setCell ⟨w.heap.size, 0, none⟩ (.slice Av l.length cv)) := hbw5.setCell (Nat.le_refl _) _
  have c1 := hP5.cell 0
  have f1 := hP5.frozen 0
  rw [show (#[Value.slice none 0 0] : Array Value)[0]? = some (.slice none 0 0) from rfl] at c1
  go_wp2_with fail
  generalize w5.setCell ⟨w.heap.size, 0, none⟩ (.slice Av l.length cv) = w6 at *
  clear c1 f1
  have c1 := hP6.cell 0
  have c2' := hQ6.cell 0
  have c3 := hR6.cell 0
  have c4 := hG6.cell 0
  have c5 := hG6.cell 2
  have f1 := hP6.frozen 0
  have f2 := hQ6.frozen 0
  have f3 := hR6.frozen 0
  rw [show (#[Value.slice Av l.length cv] : Array Value)[0]? = some (.slice Av l.length cv) from rfl] at c1
  rw [show (#[Value.int .i64 0] : Array Value)[0]? = some (.int .i64 0) from rfl] at c2'
  rw [show (#[Value.int .i64 0] : Array Value)[0]? = some (.int .i64 0) from rfl] at c3
  rw [show (#[Value.slice A2 (n - k) c2, .int .i64 120, .int .i64 n] : Array Value)[0]? = some (.slice A2 (n - k) c2) from rfl] at c4
  rw [show (#[Value.slice A2 (n - k) c2, .int .i64 120, .int .i64 n] : Array Value)[2]? = some (.int .i64 n) from rfl] at c5
  have hws : IntKind.i64.wrap ((n : Int) - ((n - k : Nat) : Int)) = (k : Int) := by rw [IntKind.wrap_i64]; omega
  have hvo' : ∀ j, j < w4.heap.size → (Value.slice Av l.length cv).ownBlock ≠ some j := fun j hj e => by have := hvo _ e; omega
  have HVO := hide hvo'
  clear hvo hvo' ho5 hb5 hG5 hP5 hQ5 hR5 hbw5
  go_region_held3 (fun w' => w'.cell? ⟨w.heap.size, 0, none⟩ = some (.slice Av l.length cv) ∧ w'.cell? ⟨w.heap.size + 1 + 1 + 1, 0, none⟩ = some (.slice A2 (n - k) c2) ∧ w'.cell? ⟨w.heap.size + 1 + 1 + 1, 2, none⟩ = some (.int .i64 n)) ((refine ⟨Blk.cell (g := w.heap.size) (t := 22) (cs := #[.slice Av l.length cv]) ?_ 0, Blk.cell (g := w.heap.size + 1 + 1 + 1) (t := 62) (cs := #[.slice A2 (n - k) c2, .int .i64 120, .int .i64 n]) ?_ 0, Blk.cell (g := w.heap.size + 1 + 1 + 1) (t := 62) (cs := #[.slice A2 (n - k) c2, .int .i64 120, .int .i64 n]) ?_ 2⟩ <;> repeat (first | exact hP6 | exact hG6 | (with_reducible refine Blk.drew ?_) | (with_reducible refine Blk.put1 (x := .slice Av l.length cv) ?_) | (refine Blk.far ?_ (by simp; try omega) _)))) (fail)
  have hP7 := (((Blk.put1 (v := .slice Av l.length cv) hP6).far (p := ⟨w.heap.size + 1, 0, none⟩) (by simp) (.int .i64 k)).far (p := ⟨w.heap.size + 1 + 1, 0, none⟩) (by simp; omega) (.int .i64 0)).drew
  have hQ7 := ((Blk.put1 (v := .int .i64 k) (hQ6.far (p := ⟨w.heap.size, 0, none⟩) (by simp) (.slice Av l.length cv))).far (p := ⟨w.heap.size + 1 + 1, 0, none⟩) (by simp) (.int .i64 0)).drew
  have hR7 := (Blk.put1 (v := .int .i64 0) ((hR6.far (p := ⟨w.heap.size, 0, none⟩) (by simp; omega) (.slice Av l.length cv)).far (p := ⟨w.heap.size + 1, 0, none⟩) (by simp) (.int .i64 k))).drew
  have ho7 := (own_far (own_far (own_far ho6 (p := ⟨w.heap.size, 0, none⟩) (HVO.out _ (by simp; omega)) (.slice Av l.length cv)) (p := ⟨w.heap.size + 1, 0, none⟩) (HVO.out _ (by simp; omega)) (.int .i64 k)) (p := ⟨w.heap.size + 1 + 1, 0, none⟩) (HVO.out _ (by simp; omega)) (.int .i64 0)).drew
  have hbw7 := (((hbw6.setCell (p := ⟨w.heap.size, 0, none⟩) (Nat.le_refl _) (.slice Av l.length cv)).setCell (p := ⟨w.heap.size + 1, 0, none⟩) (by simp) (.int .i64 k)).setCell (p := ⟨w.heap.size + 1 + 1, 0, none⟩) (by simp; omega) (.int .i64 0)).drew
  generalize (((w6.setCell ⟨w.heap.size, 0, none⟩ (.slice Av l.length cv)).setCell ⟨w.heap.size + 1, 0, none⟩ (.int .i64 k)).setCell ⟨w.heap.size + 1 + 1, 0, none⟩ (.int .i64 0)).drew = w7 at *
  go_wp2_with fail
  refine leaves_cons (f := 33) (args := #[.pointer (some ⟨w.heap.size, 0, none⟩), .pointer (some ⟨w.heap.size + 1, 0, none⟩), .pointer (some ⟨w.heap.size + 1 + 1, 0, none⟩)]) (by simp) (by simp [go_sem]) ?_
  refine (catch_idle _ _ _ w7).mono ?_
  rintro x u' w8 ⟨rfl, rfl, rfl⟩
  have d1 := hP7.cell 0
  have d2 := hQ7.cell 0
  have d3 := hR7.cell 0
  rw [show (#[Value.slice Av l.length cv] : Array Value)[0]? = some (.slice Av l.length cv) from rfl] at d1
  rw [show (#[Value.int .i64 (k : Int)] : Array Value)[0]? = some (.int .i64 (k : Int)) from rfl] at d2
  rw [show (#[Value.int .i64 0] : Array Value)[0]? = some (.int .i64 0) from rfl] at d3
  simp [Leaves, settle, results, Try.results17, go_sem, d1, d2, d3]
  exact ⟨own_base ho7 (by omega), hbw7⟩
end Go.Proofs.Ytbpodmgogokpiaa
