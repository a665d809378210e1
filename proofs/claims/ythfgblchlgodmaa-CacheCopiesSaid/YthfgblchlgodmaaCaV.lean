/- The walk of the document's Do (package taborref21). Conditions: those of each theorem. (Printed by wip/gen_cav.py.) -/
import Derived.Test.YthfgblchlgodmaaCaT
import Derived.Test.YthfgblchlgodmaaCaRd
import Derived.Laws.ResultCell
namespace Go.Proofs.Ythfgblchlgodmaa
open Go.RowKit
set_option linter.unusedVariables false

theorem own_cellsN {w : World} {B : Nat} {e : TypeId} {size : Nat} {v : Value} {n k : Nat} {xs : List Value} (h : w.ownsRow B e size v n xs) (hk : v.ownBlock = some k) : ∃ cs, Blk w k e cs := by
  rcases h.2 with ⟨h2, _⟩ | ⟨g, cap, cur, hv, hb, hg, _⟩
  · rw [h2] at hk; cases hk
  · subst hv
    obtain rfl : g = k := by simpa [Value.ownBlock] using hk
    exact ⟨cur, hg⟩
theorem own_notN {w : World} {B : Nat} {e t : TypeId} {size : Nat} {v : Value} {n k : Nat} {xs : List Value} {cs : Array Value} (h : w.ownsRow B e size v n xs) (hk : Blk w k t cs) (hne : t ≠ e) : v.ownBlock ≠ some k := fun e' => by
  obtain ⟨cs', h'⟩ := own_cellsN h e'
  exact hk.ne_ h' hne rfl
theorem own_farN {w : World} {B : Nat} {e : TypeId} {size : Nat} {v : Value} {n : Nat} {xs : List Value} (h : w.ownsRow B e size v n xs) {p : Addr} (hp : v.ownBlock ≠ some p.block) (u : Value) : (w.setCell p u).ownsRow B e size v n xs := by
  obtain ⟨h1, h2⟩ := h
  refine ⟨h1, ?_⟩
  rcases h2 with h2 | ⟨g, cap, cur, rfl, b, c, d⟩
  · exact .inl h2
  · have hk : Blk w g e cur := c
    exact .inr ⟨g, cap, cur, rfl, b, hk.far (fun e => hp (by rw [← e]; rfl)) u, d⟩
theorem bodyPost_cell_tmps {P : Program} {fn : Func} {p u v : Tmp} {ty : TypeId} (hf : fn.results = #[.cell p ty, .tmp u, .tmp v]) {R : Ending → World → Prop} {a : Act} {w : World} {g : Nat} {t : TypeId} {cs : Array Value} {d : TypeDesc} {x y : Value}
    (hp : a.tmps.getD p undef = .pointer (some ⟨g, 0, none⟩)) (hx : a.tmps.getD u undef = x) (hy : a.tmps.getD v undef = y) (hg : Blk w g t cs) (hu : P.underlying ty = some d) (hd : (match d with | .struct _ | .array _ _ => true | _ => false) = true) (hi : (P.info? ty).map (·.size) = some cs.size)
    (hdf : a.defers = []) (hR : R (.returned (.tuple #[.agg cs, x, y])) w) : bodyPost P fn R .ret a w :=
  bodyPost_ret (by
    have hr : (results fn a.tmps).run P w = ((asAddr (a.tmps.getD p undef)).run P w).andThen fun a' w₁ => ((loadVar ty a').run P w₁).andThen fun z w₂ => .ok (.tuple #[z, a.tmps.getD u undef, a.tmps.getD v undef]) w₂ := by
      simp only [results, hf]
      simp [Sem.run_bind, Result.andThen]
    rw [hr, hp]
    simp only [asAddr, Sem.run_pure, Result.andThen_ok]
    rw [run_loadVar_row w g t ty cs (0, 0) d hg hu hd hi, Result.andThen_ok, hx, hy]) hdf hR
/-- entries in a row of their own -/
def EOwn (w : World) (B : Nat) (A : Option Addr) (n c : Nat) (l : EL) : Prop := w.ownsRow B 49 2 (.slice A n c) n (evs l)
def RDo (B : Nat) (S N : EL) (x : CAct) (w : World) (e : Ending) (w' : World) : Prop := ∃ A1 n1 c1 A2 n2 c2, e = .returned (.tuple #[.agg #[.slice A1 n1 c1, .slice A2 n2 c2], .string (doD x), .int .i64 (doE N x : Nat)]) ∧ EOwn w' B A1 n1 c1 (doS S N x) ∧ EOwn w' B A2 n2 c2 (doN S N x) ∧ Below w.heap.size w w'

set_option maxHeartbeats 8000000 in
set_option maxRecDepth 20000 in
theorem rdo0 {A1 A2 : Option Addr} {n1 c1 n2 c2 : Nat} {B : Nat} {S N : EL} {name script : ByteArray} (w : World) (o1 : EOwn w B A1 n1 c1 S) (o2 : EOwn w B A2 n2 c2 N) (hB : B ≤ w.heap.size) (hn1 : n1 ≤ 20000) (hn2 : n2 ≤ 20000) (hs : script.size ≤ 100000) (hnm : name.size ≤ 9223372036854775807) :
    Calls Try.prog 20 #[.agg #[.slice A1 n1 c1, .slice A2 n2 c2], .agg #[.int .i64 0, .string name, .string script]] w fun e w' => RDo B S N ⟨0, name, script⟩ w e w' := by
  have hd0 := ((Blk.new w 30 #[.slice A1 n1 c1, .slice A2 n2 c2]).alloc (.cells #[.int .i64 0, .string name, .string script] 39)).alloc (.cells #[.slice none 0 0, .slice none 0 0] 30)
  have hx0 := (Blk.new (w.alloc (.cells #[.slice A1 n1 c1, .slice A2 n2 c2] 30)) 39 #[.int .i64 0, .string name, .string script]).alloc (.cells #[.slice none 0 0, .slice none 0 0] 30)
  have hq0 := Blk.new ((w.alloc (.cells #[.slice A1 n1 c1, .slice A2 n2 c2] 30)).alloc (.cells #[.int .i64 0, .string name, .string script] 39)) 30 #[.slice none 0 0, .slice none 0 0]
  rw [World.size_alloc] at hx0
  rw [World.size_alloc, World.size_alloc] at hq0
  have hb0 : Below w.heap.size w (((w.alloc (.cells #[.slice A1 n1 c1, .slice A2 n2 c2] 30)).alloc (.cells #[.int .i64 0, .string name, .string script] 39)).alloc (.cells #[.slice none 0 0, .slice none 0 0] 30)) := (((Below.refl _ w).alloc (Nat.le_refl _) _).alloc (by simp) _).alloc (by simp; omega) _
  have hbnd : w.heap.size ≤ w.heap.size + 1 + 1 := by omega
  have h1 := Reads.of_own2 o1
  have h2 := Reads.of_own2 o2
  have HO1 := hide o1
  have HO2 := hide o2
  clear o1 o2
  have HL1 := hide h1.elen
  have HL2 := hide h2.elen
  go_enter Try.func20, Try.ntmps20
  go_upto_region 1 with (fail)
  generalize ((w.alloc (.cells #[.slice A1 n1 c1, .slice A2 n2 c2] 30)).alloc (.cells #[.int .i64 0, .string name, .string script] 39)).alloc (.cells #[.slice none 0 0, .slice none 0 0] 30) = W at *
  have r1 := h1.below hb0
  have r2 := h2.below hb0
  have hz0 := hb0.size
  have hsI : ¬ (1048576 : Int) < (script.size : Int) := by omega
  have hsd : decide ((1048576 : Int) < (script.size : Int)) = false := decide_eq_false hsI
  clear h1 h2 hsI
  have d0 : W.cell? ⟨w.heap.size, 0, none⟩ = some (.slice A1 n1 c1) := hd0.cell 0
  have d1 : W.cell? ⟨w.heap.size, 1, none⟩ = some (.slice A2 n2 c2) := hd0.cell 1
  have s0 : W.cell? ⟨w.heap.size + 1, 0, none⟩ = some (.int .i64 0) := hx0.cell 0
  have s1 : W.cell? ⟨w.heap.size + 1, 1, none⟩ = some (.string name) := hx0.cell 1
  have s2 : W.cell? ⟨w.heap.size + 1, 2, none⟩ = some (.string script) := hx0.cell 2
  have hconv := run_conv (P := Try.prog) W 9 52 5 script Try.underlying9 Try.underlying52 Try.underlying5
  have hbc := convW_below script 5 W
  have hrc := convW_reads script 5 W
  have HD := hide (rdigest_any _ script.size (grownCap W script.size 0 5) script.data.toList (convW script 5 W) hrc hs)
  change Hid (Calls _ _ _ _ fun e w' => e = .returned (.string (digS script)) ∧ _) at HD
  have HDS : Hid (digS script = digS script) := rfl
  obtain ⟨D, hD⟩ : ∃ D, D = digS script := ⟨_, rfl⟩
  rw [← hD] at HD
  have HDD := hide hD
  clear hD HDS
  go_upto_region 6 with (first
    | (go_at_call 40; go_must (refine HD.out.mono ?_; rintro e w2 ⟨rfl, hb2⟩))
    | fail)
  have hbW2 : Below W.heap.size W w2 := hbc.trans (hb2.mono hbc.size)
  have hd2 := hd0.below hbW2 hd0.lt
  have hx2 := hx0.below hbW2 hx0.lt
  have hq2 := hq0.below hbW2 hq0.lt
  have hbw2 := hb0.trans (hbW2.mono hz0)
  have r1' := r1.below (hbW2.mono hz0)
  have r2' := r2.below (hbW2.mono hz0)
  clear hconv hbc hrc HD hb2 hbW2 d0 d1 s0 s1 s2 hd0 hx0 hq0 hb0 r1 r2
  have d0 : w2.cell? ⟨w.heap.size, 0, none⟩ = some (.slice A1 n1 c1) := hd2.cell 0
  have d1 : w2.cell? ⟨w.heap.size, 1, none⟩ = some (.slice A2 n2 c2) := hd2.cell 1
  have s0 : w2.cell? ⟨w.heap.size + 1, 0, none⟩ = some (.int .i64 0) := hx2.cell 0
  have s1 : w2.cell? ⟨w.heap.size + 1, 1, none⟩ = some (.string name) := hx2.cell 1
  have s2 : w2.cell? ⟨w.heap.size + 1, 2, none⟩ = some (.string script) := hx2.cell 2
  have HR := hide (room_any (A1 := A1) (A2 := A2) (c1 := c1) (c2 := c2) (c := c1) (n1 := n1) (n2 := n2) (name := D) w2 (r1'.more hbw2.size) (by omega) (by omega) (by omega))
  go_upto_region 8 with (first
    | (go_at_call 41; go_must (refine HR.out.mono ?_; rintro e w3 ⟨rfl, hb3⟩))
    | fail)
  have hd3 := hd2.below hb3 hd2.lt
  have hx3 := hx2.below hb3 hx2.lt
  have hq3 := hq2.below hb3 hq2.lt
  have hbw3 := hbw2.trans (hb3.mono hbw2.size)
  have r1 := r1'.below (hb3.mono hbw2.size)
  have r2 := r2'.below (hb3.mono hbw2.size)
  clear HR hb3 hbw2 r1' r2' d0 d1 s0 s1 s2 hd2 hx2 hq2
  have d0 : w3.cell? ⟨w.heap.size, 0, none⟩ = some (.slice A1 n1 c1) := hd3.cell 0
  have d1 : w3.cell? ⟨w.heap.size, 1, none⟩ = some (.slice A2 n2 c2) := hd3.cell 1
  have s0 : w3.cell? ⟨w.heap.size + 1, 0, none⟩ = some (.int .i64 0) := hx3.cell 0
  have s1 : w3.cell? ⟨w.heap.size + 1, 1, none⟩ = some (.string name) := hx3.cell 1
  have s2 : w3.cell? ⟨w.heap.size + 1, 2, none⟩ = some (.string script) := hx3.cell 2
  have hBz := Nat.le_trans hB hbw3.size
  have HW := hide (rwith_any (c := c1) (x := (D, script)) w3 (r1.more hbw3.size) (by omega))
  go_upto_region 9 with (first
    | (go_at_call 42
       go_must (
       refine HW.out.mono ?_
       rintro e w5 ⟨v5, rfl, hown5, hb5⟩
       obtain ⟨A5, m5, c5, rfl⟩ := own_sliceN hown5
       have hm5 := own_len2 hown5
       rw [← hm5] at hown5
       clear hm5
       have hd5 := hd3.below hb5 hd3.lt
       have hq5 := hq3.below hb5 hq3.lt
       have hf5 := hd5.frozen 0
       have c5' : w5.cell? ⟨w.heap.size, 0, none⟩ = some (.slice A1 n1 c1) := hd5.cell 0))
    | fail)
  have hbw5 := hbw3.trans (hb5.mono hbw3.size)
  have r2' := r2.below (hb5.mono hbw3.size)
  have hown6 := own_farN hown5 (p := ⟨w.heap.size, 0, none⟩) (own_notN hown5 hd5 (by decide)) (.slice A5 m5 c5)
  have hd6 := hd5.set_ 0 (.slice A5 m5 c5)
  have hq6 := hq5.far (p := ⟨w.heap.size, 0, none⟩) (by show w.heap.size + 1 + 1 ≠ w.heap.size; omega) (.slice A5 m5 c5)
  have hbw6 := hbw5.setCell (p := ⟨w.heap.size, 0, none⟩) (Nat.le_refl _) (.slice A5 m5 c5)
  have r2z := r2'.setCell (p := ⟨w.heap.size, 0, none⟩) (Nat.le_refl _) (.slice A5 m5 c5)
  clear hd5 hq5 hbw5 r2' r2 r1 hown5 hb5 hf5 c5' d0 d1 s0 s1 s2 hd3 hx3 hq3 HW hbw3
  generalize w5.setCell ⟨w.heap.size, 0, none⟩ (.slice A5 m5 c5) = w6 at *
  have g0 : w6.cell? ⟨w.heap.size, 0, none⟩ = some (.slice A5 m5 c5) := hd6.cell 0
  have g1 : w6.cell? ⟨w.heap.size, 1, none⟩ = some (.slice A2 n2 c2) := hd6.cell 1
  have p0 := hq6.cell 0
  have p1 := hq6.cell 1
  have pf := fun i => hq6.frozen i
  go_wp2_with fail
  have hqz := (hq6.set_ 0 (.slice A5 m5 c5)).set_ 1 (.slice A2 n2 c2)
  have hbz := (hbw6.setCell (p := ⟨w.heap.size + 1 + 1, 0, none⟩) hbnd (.slice A5 m5 c5)).setCell (p := ⟨w.heap.size + 1 + 1, 1, none⟩) hbnd (.slice A2 n2 c2)
  refine bodyPost_cell_tmps Try.results20 (g := w.heap.size + 1 + 1) rfl rfl rfl hqz Try.underlying30 rfl (by kernel_rfl) rfl ⟨A5, m5, c5, A2, n2, c2, by rw [HDD.out]; rfl, ?_, ?_, hbz⟩
  · have ho1 := own_farN hown6 (p := ⟨w.heap.size + 1 + 1, 0, none⟩) (own_notN hown6 hq6 (by decide)) (.slice A5 m5 c5)
    have ho2 := own_farN ho1 (p := ⟨w.heap.size + 1 + 1, 1, none⟩) (own_notN ho1 (hq6.set_ 0 (.slice A5 m5 c5)) (by decide)) (.slice A2 n2 c2)
    have := own_base2 ho2 hBz
    rw [HDD.out] at this
    exact this
  · exact own_below HO2.out hbz

set_option maxHeartbeats 8000000 in
set_option maxRecDepth 20000 in
theorem rdo1 {A1 A2 : Option Addr} {n1 c1 n2 c2 : Nat} {B : Nat} {S N : EL} {name script : ByteArray} (w : World) (o1 : EOwn w B A1 n1 c1 S) (o2 : EOwn w B A2 n2 c2 N) (hB : B ≤ w.heap.size) (hn1 : n1 ≤ 20000) (hn2 : n2 ≤ 20000) (hs : script.size ≤ 100000) (hnm : name.size ≤ 9223372036854775807) :
    Calls Try.prog 20 #[.agg #[.slice A1 n1 c1, .slice A2 n2 c2], .agg #[.int .i64 1, .string name, .string script]] w fun e w' => RDo B S N ⟨1, name, script⟩ w e w' := by
  have hd0 := ((Blk.new w 30 #[.slice A1 n1 c1, .slice A2 n2 c2]).alloc (.cells #[.int .i64 1, .string name, .string script] 39)).alloc (.cells #[.slice none 0 0, .slice none 0 0] 30)
  have hx0 := (Blk.new (w.alloc (.cells #[.slice A1 n1 c1, .slice A2 n2 c2] 30)) 39 #[.int .i64 1, .string name, .string script]).alloc (.cells #[.slice none 0 0, .slice none 0 0] 30)
  have hq0 := Blk.new ((w.alloc (.cells #[.slice A1 n1 c1, .slice A2 n2 c2] 30)).alloc (.cells #[.int .i64 1, .string name, .string script] 39)) 30 #[.slice none 0 0, .slice none 0 0]
  rw [World.size_alloc] at hx0
  rw [World.size_alloc, World.size_alloc] at hq0
  have hb0 : Below w.heap.size w (((w.alloc (.cells #[.slice A1 n1 c1, .slice A2 n2 c2] 30)).alloc (.cells #[.int .i64 1, .string name, .string script] 39)).alloc (.cells #[.slice none 0 0, .slice none 0 0] 30)) := (((Below.refl _ w).alloc (Nat.le_refl _) _).alloc (by simp) _).alloc (by simp; omega) _
  have hbnd : w.heap.size ≤ w.heap.size + 1 + 1 := by omega
  have h1 := Reads.of_own2 o1
  have h2 := Reads.of_own2 o2
  have HO1 := hide o1
  have HO2 := hide o2
  clear o1 o2
  have HL1 := hide h1.elen
  have HL2 := hide h2.elen
  go_enter Try.func20, Try.ntmps20
  go_upto_region 1 with (fail)
  generalize ((w.alloc (.cells #[.slice A1 n1 c1, .slice A2 n2 c2] 30)).alloc (.cells #[.int .i64 1, .string name, .string script] 39)).alloc (.cells #[.slice none 0 0, .slice none 0 0] 30) = W at *
  have r1 := h1.below hb0
  have r2 := h2.below hb0
  have hz0 := hb0.size
  have hsI : ¬ (1048576 : Int) < (script.size : Int) := by omega
  have hsd : decide ((1048576 : Int) < (script.size : Int)) = false := decide_eq_false hsI
  clear h1 h2 hsI
  have d0 : W.cell? ⟨w.heap.size, 0, none⟩ = some (.slice A1 n1 c1) := hd0.cell 0
  have d1 : W.cell? ⟨w.heap.size, 1, none⟩ = some (.slice A2 n2 c2) := hd0.cell 1
  have s0 : W.cell? ⟨w.heap.size + 1, 0, none⟩ = some (.int .i64 1) := hx0.cell 0
  have s1 : W.cell? ⟨w.heap.size + 1, 1, none⟩ = some (.string name) := hx0.cell 1
  have s2 : W.cell? ⟨w.heap.size + 1, 2, none⟩ = some (.string script) := hx0.cell 2
  have hdf := fun i => hd0.frozen i
  have hd6 := hd0.set_ 0 (.slice none 0 0)
  have hq6 := hq0.far (p := ⟨w.heap.size, 0, none⟩) (by show w.heap.size + 1 + 1 ≠ w.heap.size; omega) (.slice none 0 0)
  have hbw6 := hb0.setCell (p := ⟨w.heap.size, 0, none⟩) (Nat.le_refl _) (.slice none 0 0)
  have r2z := r2.setCell (p := ⟨w.heap.size, 0, none⟩) (Nat.le_refl _) (.slice none 0 0)
  go_upto_region 12 with (fail)
  clear d0 d1 s0 s1 s2 hd0 hx0 hq0 hb0 r1 r2 hdf
  generalize W.setCell ⟨w.heap.size, 0, none⟩ (.slice none 0 0) = w6 at *
  have g0 : w6.cell? ⟨w.heap.size, 0, none⟩ = some (.slice none 0 0) := hd6.cell 0
  have g1 : w6.cell? ⟨w.heap.size, 1, none⟩ = some (.slice A2 n2 c2) := hd6.cell 1
  have p0 := hq6.cell 0
  have p1 := hq6.cell 1
  have pf := fun i => hq6.frozen i
  go_wp2_with fail
  have hqz := (hq6.set_ 0 (.slice none 0 0)).set_ 1 (.slice A2 n2 c2)
  have hbz := (hbw6.setCell (p := ⟨w.heap.size + 1 + 1, 0, none⟩) hbnd (.slice none 0 0)).setCell (p := ⟨w.heap.size + 1 + 1, 1, none⟩) hbnd (.slice A2 n2 c2)
  refine bodyPost_cell_tmps Try.results20 (g := w.heap.size + 1 + 1) rfl rfl rfl hqz Try.underlying30 rfl (by kernel_rfl) rfl ⟨none, 0, 0, A2, n2, c2, rfl, World.ownsRow_nil _ _ _ _, own_below HO2.out hbz, hbz⟩

set_option maxHeartbeats 8000000 in
set_option maxRecDepth 20000 in
theorem rdo2 {A1 A2 : Option Addr} {n1 c1 n2 c2 : Nat} {B : Nat} {S N : EL} {name script : ByteArray} (w : World) (o1 : EOwn w B A1 n1 c1 S) (o2 : EOwn w B A2 n2 c2 N) (hB : B ≤ w.heap.size) (hn1 : n1 ≤ 20000) (hn2 : n2 ≤ 20000) (hs : script.size ≤ 100000) (hnm : name.size ≤ 9223372036854775807) :
    Calls Try.prog 20 #[.agg #[.slice A1 n1 c1, .slice A2 n2 c2], .agg #[.int .i64 2, .string name, .string script]] w fun e w' => RDo B S N ⟨2, name, script⟩ w e w' := by
  have hd0 := ((Blk.new w 30 #[.slice A1 n1 c1, .slice A2 n2 c2]).alloc (.cells #[.int .i64 2, .string name, .string script] 39)).alloc (.cells #[.slice none 0 0, .slice none 0 0] 30)
  have hx0 := (Blk.new (w.alloc (.cells #[.slice A1 n1 c1, .slice A2 n2 c2] 30)) 39 #[.int .i64 2, .string name, .string script]).alloc (.cells #[.slice none 0 0, .slice none 0 0] 30)
  have hq0 := Blk.new ((w.alloc (.cells #[.slice A1 n1 c1, .slice A2 n2 c2] 30)).alloc (.cells #[.int .i64 2, .string name, .string script] 39)) 30 #[.slice none 0 0, .slice none 0 0]
  rw [World.size_alloc] at hx0
  rw [World.size_alloc, World.size_alloc] at hq0
  have hb0 : Below w.heap.size w (((w.alloc (.cells #[.slice A1 n1 c1, .slice A2 n2 c2] 30)).alloc (.cells #[.int .i64 2, .string name, .string script] 39)).alloc (.cells #[.slice none 0 0, .slice none 0 0] 30)) := (((Below.refl _ w).alloc (Nat.le_refl _) _).alloc (by simp) _).alloc (by simp; omega) _
  have hbnd : w.heap.size ≤ w.heap.size + 1 + 1 := by omega
  have h1 := Reads.of_own2 o1
  have h2 := Reads.of_own2 o2
  have HO1 := hide o1
  have HO2 := hide o2
  clear o1 o2
  have HL1 := hide h1.elen
  have HL2 := hide h2.elen
  go_enter Try.func20, Try.ntmps20
  go_upto_region 1 with (fail)
  generalize ((w.alloc (.cells #[.slice A1 n1 c1, .slice A2 n2 c2] 30)).alloc (.cells #[.int .i64 2, .string name, .string script] 39)).alloc (.cells #[.slice none 0 0, .slice none 0 0] 30) = W at *
  have r1 := h1.below hb0
  have r2 := h2.below hb0
  have hz0 := hb0.size
  have hsI : ¬ (1048576 : Int) < (script.size : Int) := by omega
  have hsd : decide ((1048576 : Int) < (script.size : Int)) = false := decide_eq_false hsI
  clear h1 h2 hsI
  have d0 : W.cell? ⟨w.heap.size, 0, none⟩ = some (.slice A1 n1 c1) := hd0.cell 0
  have d1 : W.cell? ⟨w.heap.size, 1, none⟩ = some (.slice A2 n2 c2) := hd0.cell 1
  have s0 : W.cell? ⟨w.heap.size + 1, 0, none⟩ = some (.int .i64 2) := hx0.cell 0
  have s1 : W.cell? ⟨w.heap.size + 1, 1, none⟩ = some (.string name) := hx0.cell 1
  have s2 : W.cell? ⟨w.heap.size + 1, 2, none⟩ = some (.string script) := hx0.cell 2
  have HN := hide (rname_any name W hnm)
  cases hx : nameS name with
  | false =>
    rw [hx] at HN
    go_upto_region 14 with (first
      | (go_at_call 8; go_must (refine HN.out.mono ?_; rintro e w2 ⟨rfl, rfl⟩))
      | fail)
    have g0 : W.cell? ⟨w.heap.size, 0, none⟩ = some (.slice A1 n1 c1) := hd0.cell 0
    have g1 : W.cell? ⟨w.heap.size, 1, none⟩ = some (.slice A2 n2 c2) := hd0.cell 1
    have p0 := hq0.cell 0
    have p1 := hq0.cell 1
    have pf := fun i => hq0.frozen i
    go_wp2_with fail
    have hqz := (hq0.set_ 0 (.slice A1 n1 c1)).set_ 1 (.slice A2 n2 c2)
    have hbz := (hb0.setCell (p := ⟨w.heap.size + 1 + 1, 0, none⟩) hbnd (.slice A1 n1 c1)).setCell (p := ⟨w.heap.size + 1 + 1, 1, none⟩) hbnd (.slice A2 n2 c2)
    refine bodyPost_cell_tmps Try.results20 (g := w.heap.size + 1 + 1) rfl rfl rfl hqz Try.underlying30 rfl (by kernel_rfl) rfl ⟨A1, n1, c1, A2, n2, c2, by unfold doE doD; simp only [hx]; rfl, ?_, ?_, hbz⟩
    · exact own_below HO1.out hbz
    · rw [show doN S N ⟨2, name, script⟩ = N by simp [doN, hx]]
      exact own_below HO2.out hbz
  | true =>
    rw [hx] at HN
    have HR := hide (room_any (A1 := A1) (A2 := A2) (c1 := c1) (c2 := c2) (c := c2) (n1 := n1) (n2 := n2) (name := name) W (r2.more hz0) (by omega) (by omega) (by omega))
    go_upto_region 18 with (first
      | (go_at_call 8; go_must (refine HN.out.mono ?_; rintro e w2 ⟨rfl, rfl⟩))
      | (go_at_call 41; go_must (refine HR.out.mono ?_; rintro e w3 ⟨rfl, hb3⟩))
      | fail)
    have hd3 := hd0.below hb3 hd0.lt
    have hx3 := hx0.below hb3 hx0.lt
    have hq3 := hq0.below hb3 hq0.lt
    have hbw3 := hb0.trans (hb3.mono hz0)
    have r1' := r1.below (hb3.mono hz0)
    have r2' := r2.below (hb3.mono hz0)
    clear HR hb3 hb0 r1 r2 d0 d1 s0 s1 s2 hd0 hx0 hq0 HN
    have d0 : w3.cell? ⟨w.heap.size, 0, none⟩ = some (.slice A1 n1 c1) := hd3.cell 0
    have d1 : w3.cell? ⟨w.heap.size, 1, none⟩ = some (.slice A2 n2 c2) := hd3.cell 1
    have s0 : w3.cell? ⟨w.heap.size + 1, 0, none⟩ = some (.int .i64 2) := hx3.cell 0
    have s1 : w3.cell? ⟨w.heap.size + 1, 1, none⟩ = some (.string name) := hx3.cell 1
    have s2 : w3.cell? ⟨w.heap.size + 1, 2, none⟩ = some (.string script) := hx3.cell 2
    have hBz := Nat.le_trans hB hbw3.size
    have HW := hide (rwith_any (c := c2) (x := (name, script)) w3 (r2'.more hbw3.size) (by omega))
    go_upto_region 19 with (first
      | (go_at_call 42
         go_must (
         refine HW.out.mono ?_
         rintro e w5 ⟨v5, rfl, hown5, hb5⟩
         obtain ⟨A5, m5, c5, rfl⟩ := own_sliceN hown5
         have hm5 := own_len2 hown5
         rw [← hm5] at hown5
         clear hm5
         have hd5 := hd3.below hb5 hd3.lt
         have hq5 := hq3.below hb5 hq3.lt
         have hf5 := hd5.frozen 1
         have c5' : w5.cell? ⟨w.heap.size, 1, none⟩ = some (.slice A2 n2 c2) := hd5.cell 1))
      | fail)
    have hbw5 := hbw3.trans (hb5.mono hbw3.size)
    have r1z := (r1'.below (hb5.mono hbw3.size)).setCell (p := ⟨w.heap.size, 1, none⟩) (Nat.le_refl _) (.slice A5 m5 c5)
    have hown6 := own_farN hown5 (p := ⟨w.heap.size, 1, none⟩) (own_notN hown5 hd5 (by decide)) (.slice A5 m5 c5)
    have hd6 := hd5.set_ 1 (.slice A5 m5 c5)
    have hq6 := hq5.far (p := ⟨w.heap.size, 1, none⟩) (by show w.heap.size + 1 + 1 ≠ w.heap.size; omega) (.slice A5 m5 c5)
    have hbw6 := hbw5.setCell (p := ⟨w.heap.size, 1, none⟩) (Nat.le_refl _) (.slice A5 m5 c5)
    clear hd5 hq5 hbw5 r2' r1' hown5 hb5 hf5 c5' d0 d1 s0 s1 s2 hd3 hx3 hq3 HW hbw3
    generalize w5.setCell ⟨w.heap.size, 1, none⟩ (.slice A5 m5 c5) = w6 at *
    have g0 : w6.cell? ⟨w.heap.size, 0, none⟩ = some (.slice A1 n1 c1) := hd6.cell 0
    have g1 : w6.cell? ⟨w.heap.size, 1, none⟩ = some (.slice A5 m5 c5) := hd6.cell 1
    have p0 := hq6.cell 0
    have p1 := hq6.cell 1
    have pf := fun i => hq6.frozen i
    go_wp2_with fail
    have hqz := (hq6.set_ 0 (.slice A1 n1 c1)).set_ 1 (.slice A5 m5 c5)
    have hbz := (hbw6.setCell (p := ⟨w.heap.size + 1 + 1, 0, none⟩) hbnd (.slice A1 n1 c1)).setCell (p := ⟨w.heap.size + 1 + 1, 1, none⟩) hbnd (.slice A5 m5 c5)
    refine bodyPost_cell_tmps Try.results20 (g := w.heap.size + 1 + 1) rfl rfl rfl hqz Try.underlying30 rfl (by kernel_rfl) rfl ⟨A1, n1, c1, A5, m5, c5, by unfold doE doD; simp only [hx]; rfl, ?_, ?_, hbz⟩
    · exact own_below HO1.out hbz
    · have ho1 := own_farN hown6 (p := ⟨w.heap.size + 1 + 1, 0, none⟩) (own_notN hown6 hq6 (by decide)) (.slice A1 n1 c1)
      have ho2 := own_farN ho1 (p := ⟨w.heap.size + 1 + 1, 1, none⟩) (own_notN ho1 (hq6.set_ 0 (.slice A1 n1 c1)) (by decide)) (.slice A5 m5 c5)
      rw [show doN S N ⟨2, name, script⟩ = withL N (name, script) by simp [doN, hx]]
      exact own_base2 ho2 hBz

set_option maxHeartbeats 8000000 in
set_option maxRecDepth 20000 in
theorem rdo3 {A1 A2 : Option Addr} {n1 c1 n2 c2 : Nat} {B : Nat} {S N : EL} {name script : ByteArray} (w : World) (o1 : EOwn w B A1 n1 c1 S) (o2 : EOwn w B A2 n2 c2 N) (hB : B ≤ w.heap.size) (hn1 : n1 ≤ 20000) (hn2 : n2 ≤ 20000) (hs : script.size ≤ 100000) (hnm : name.size ≤ 9223372036854775807) :
    Calls Try.prog 20 #[.agg #[.slice A1 n1 c1, .slice A2 n2 c2], .agg #[.int .i64 3, .string name, .string script]] w fun e w' => RDo B S N ⟨3, name, script⟩ w e w' := by
  have hd0 := ((Blk.new w 30 #[.slice A1 n1 c1, .slice A2 n2 c2]).alloc (.cells #[.int .i64 3, .string name, .string script] 39)).alloc (.cells #[.slice none 0 0, .slice none 0 0] 30)
  have hx0 := (Blk.new (w.alloc (.cells #[.slice A1 n1 c1, .slice A2 n2 c2] 30)) 39 #[.int .i64 3, .string name, .string script]).alloc (.cells #[.slice none 0 0, .slice none 0 0] 30)
  have hq0 := Blk.new ((w.alloc (.cells #[.slice A1 n1 c1, .slice A2 n2 c2] 30)).alloc (.cells #[.int .i64 3, .string name, .string script] 39)) 30 #[.slice none 0 0, .slice none 0 0]
  rw [World.size_alloc] at hx0
  rw [World.size_alloc, World.size_alloc] at hq0
  have hb0 : Below w.heap.size w (((w.alloc (.cells #[.slice A1 n1 c1, .slice A2 n2 c2] 30)).alloc (.cells #[.int .i64 3, .string name, .string script] 39)).alloc (.cells #[.slice none 0 0, .slice none 0 0] 30)) := (((Below.refl _ w).alloc (Nat.le_refl _) _).alloc (by simp) _).alloc (by simp; omega) _
  have hbnd : w.heap.size ≤ w.heap.size + 1 + 1 := by omega
  have h1 := Reads.of_own2 o1
  have h2 := Reads.of_own2 o2
  have HO1 := hide o1
  have HO2 := hide o2
  clear o1 o2
  have HL1 := hide h1.elen
  have HL2 := hide h2.elen
  go_enter Try.func20, Try.ntmps20
  go_upto_region 1 with (fail)
  generalize ((w.alloc (.cells #[.slice A1 n1 c1, .slice A2 n2 c2] 30)).alloc (.cells #[.int .i64 3, .string name, .string script] 39)).alloc (.cells #[.slice none 0 0, .slice none 0 0] 30) = W at *
  have r1 := h1.below hb0
  have r2 := h2.below hb0
  have hz0 := hb0.size
  have hsI : ¬ (1048576 : Int) < (script.size : Int) := by omega
  have hsd : decide ((1048576 : Int) < (script.size : Int)) = false := decide_eq_false hsI
  clear h1 h2 hsI
  have d0 : W.cell? ⟨w.heap.size, 0, none⟩ = some (.slice A1 n1 c1) := hd0.cell 0
  have d1 : W.cell? ⟨w.heap.size, 1, none⟩ = some (.slice A2 n2 c2) := hd0.cell 1
  have s0 : W.cell? ⟨w.heap.size + 1, 0, none⟩ = some (.int .i64 3) := hx0.cell 0
  have s1 : W.cell? ⟨w.heap.size + 1, 1, none⟩ = some (.string name) := hx0.cell 1
  have s2 : W.cell? ⟨w.heap.size + 1, 2, none⟩ = some (.string script) := hx0.cell 2
  have HN := hide (rname_any name W hnm)
  cases hx : nameS name with
  | false =>
    rw [hx] at HN
    go_upto_region 14 with (first
      | (go_at_call 8; go_must (refine HN.out.mono ?_; rintro e w2 ⟨rfl, rfl⟩))
      | fail)
    have g0 : W.cell? ⟨w.heap.size, 0, none⟩ = some (.slice A1 n1 c1) := hd0.cell 0
    have g1 : W.cell? ⟨w.heap.size, 1, none⟩ = some (.slice A2 n2 c2) := hd0.cell 1
    have p0 := hq0.cell 0
    have p1 := hq0.cell 1
    have pf := fun i => hq0.frozen i
    go_wp2_with fail
    have hqz := (hq0.set_ 0 (.slice A1 n1 c1)).set_ 1 (.slice A2 n2 c2)
    have hbz := (hb0.setCell (p := ⟨w.heap.size + 1 + 1, 0, none⟩) hbnd (.slice A1 n1 c1)).setCell (p := ⟨w.heap.size + 1 + 1, 1, none⟩) hbnd (.slice A2 n2 c2)
    refine bodyPost_cell_tmps Try.results20 (g := w.heap.size + 1 + 1) rfl rfl rfl hqz Try.underlying30 rfl (by kernel_rfl) rfl ⟨A1, n1, c1, A2, n2, c2, by unfold doE doD; simp only [hx]; rfl, ?_, ?_, hbz⟩
    · exact own_below HO1.out hbz
    · rw [show doN S N ⟨3, name, script⟩ = N by simp [doN, hx]]
      exact own_below HO2.out hbz
  | true =>
    rw [hx] at HN
    have HF := hide (rfind_any (c := c2) (name := name) W (r2.more hz0) (by omega))
    cases hf : findL N name with
    | none =>
      rw [hf] at HF
      go_upto_region 22 with (first
        | (go_at_call 8; go_must (refine HN.out.mono ?_; rintro e w2 ⟨rfl, rfl⟩))
        | (go_at_call 14; go_must (refine HF.out.mono ?_; rintro e w3 ⟨rfl, rfl⟩; unfold findV))
        | fail)
      have g0 : W.cell? ⟨w.heap.size, 0, none⟩ = some (.slice A1 n1 c1) := hd0.cell 0
      have g1 : W.cell? ⟨w.heap.size, 1, none⟩ = some (.slice A2 n2 c2) := hd0.cell 1
      have p0 := hq0.cell 0
      have p1 := hq0.cell 1
      have pf := fun i => hq0.frozen i
      go_wp2_with fail
      have hqz := (hq0.set_ 0 (.slice A1 n1 c1)).set_ 1 (.slice A2 n2 c2)
      have hbz := (hb0.setCell (p := ⟨w.heap.size + 1 + 1, 0, none⟩) hbnd (.slice A1 n1 c1)).setCell (p := ⟨w.heap.size + 1 + 1, 1, none⟩) hbnd (.slice A2 n2 c2)
      refine bodyPost_cell_tmps Try.results20 (g := w.heap.size + 1 + 1) rfl rfl rfl hqz Try.underlying30 rfl (by kernel_rfl) rfl ⟨A1, n1, c1, A2, n2, c2, by unfold doE doD; simp only [hx, hf]; rfl, ?_, ?_, hbz⟩
      · exact own_below HO1.out hbz
      · rw [show doN S N ⟨3, name, script⟩ = N by simp only [doN, hx, if_true]; rw [if_neg (by decide)]; exact drop_none (find_none.1 hf)]
        exact own_below HO2.out hbz
    | some y =>
      rw [hf] at HF
      have hBz := Nat.le_trans hB hz0
      have HW := hide (rdrop_any (c := c2) (name := name) W (r2.more hz0) (by omega))
      go_upto_region 24 with (first
        | (go_at_call 8; go_must (refine HN.out.mono ?_; rintro e w2 ⟨rfl, rfl⟩))
        | (go_at_call 14; go_must (refine HF.out.mono ?_; rintro e w3 ⟨rfl, rfl⟩; unfold findV))
        | (go_at_call 43
           go_must (
           refine HW.out.mono ?_
           rintro e w5 ⟨v5, rfl, hown5, hb5⟩
           obtain ⟨A5, m5, c5, rfl⟩ := own_sliceN hown5
           have hm5 := own_len2 hown5
           rw [← hm5] at hown5
           clear hm5
           have hd5 := hd0.below hb5 hd0.lt
           have hq5 := hq0.below hb5 hq0.lt
           have hf5 := hd5.frozen 1
           have c5' : w5.cell? ⟨w.heap.size, 1, none⟩ = some (.slice A2 n2 c2) := hd5.cell 1))
        | fail)
      have hbw5 := hb0.trans (hb5.mono hz0)
      have r1z := (r1.below (hb5.mono hz0)).setCell (p := ⟨w.heap.size, 1, none⟩) (Nat.le_refl _) (.slice A5 m5 c5)
      have hown6 := own_farN hown5 (p := ⟨w.heap.size, 1, none⟩) (own_notN hown5 hd5 (by decide)) (.slice A5 m5 c5)
      have hd6 := hd5.set_ 1 (.slice A5 m5 c5)
      have hq6 := hq5.far (p := ⟨w.heap.size, 1, none⟩) (by show w.heap.size + 1 + 1 ≠ w.heap.size; omega) (.slice A5 m5 c5)
      have hbw6 := hbw5.setCell (p := ⟨w.heap.size, 1, none⟩) (Nat.le_refl _) (.slice A5 m5 c5)
      clear hd5 hq5 hbw5 r2 r1 hown5 hb5 hf5 c5' d0 d1 s0 s1 s2 hd0 hx0 hq0 HW hb0 HF HN
      generalize w5.setCell ⟨w.heap.size, 1, none⟩ (.slice A5 m5 c5) = w6 at *
      have g0 : w6.cell? ⟨w.heap.size, 0, none⟩ = some (.slice A1 n1 c1) := hd6.cell 0
      have g1 : w6.cell? ⟨w.heap.size, 1, none⟩ = some (.slice A5 m5 c5) := hd6.cell 1
      have p0 := hq6.cell 0
      have p1 := hq6.cell 1
      have pf := fun i => hq6.frozen i
      go_wp2_with fail
      have hqz := (hq6.set_ 0 (.slice A1 n1 c1)).set_ 1 (.slice A5 m5 c5)
      have hbz := (hbw6.setCell (p := ⟨w.heap.size + 1 + 1, 0, none⟩) hbnd (.slice A1 n1 c1)).setCell (p := ⟨w.heap.size + 1 + 1, 1, none⟩) hbnd (.slice A5 m5 c5)
      refine bodyPost_cell_tmps Try.results20 (g := w.heap.size + 1 + 1) rfl rfl rfl hqz Try.underlying30 rfl (by kernel_rfl) rfl ⟨A1, n1, c1, A5, m5, c5, by unfold doE doD; simp only [hx, hf]; rfl, ?_, ?_, hbz⟩
      · exact own_below HO1.out hbz
      · have ho1 := own_farN hown6 (p := ⟨w.heap.size + 1 + 1, 0, none⟩) (own_notN hown6 hq6 (by decide)) (.slice A1 n1 c1)
        have ho2 := own_farN ho1 (p := ⟨w.heap.size + 1 + 1, 1, none⟩) (own_notN ho1 (hq6.set_ 0 (.slice A1 n1 c1)) (by decide)) (.slice A5 m5 c5)
        rw [show doN S N ⟨3, name, script⟩ = dropL N name by simp [doN, hx]]
        exact own_base2 ho2 hBz

theorem rdo_any {A1 A2 : Option Addr} {n1 c1 n2 c2 : Nat} {B : Nat} {S N : EL} {x : CAct} (w : World) (o1 : EOwn w B A1 n1 c1 S) (o2 : EOwn w B A2 n2 c2 N) (hB : B ≤ w.heap.size) (hn1 : n1 ≤ 20000) (hn2 : n2 ≤ 20000) (hx0 : 0 ≤ x.what) (hx3 : x.what ≤ 3) (hs : x.script.size ≤ 100000) (hnm : x.name.size ≤ 9223372036854775807) :
    Calls Try.prog 20 #[.agg #[.slice A1 n1 c1, .slice A2 n2 c2], .agg (actV x)] w fun e w' => RDo B S N x w e w' := by
  obtain ⟨what, name, script⟩ := x
  simp only at hx0 hx3 hs hnm
  rcases (show what = 0 ∨ what = 1 ∨ what = 2 ∨ what = 3 by omega) with rfl | rfl | rfl | rfl
  · exact rdo0 w o1 o2 hB hn1 hn2 hs hnm
  · exact rdo1 w o1 o2 hB hn1 hn2 hs hnm
  · exact rdo2 w o1 o2 hB hn1 hn2 hs hnm
  · exact rdo3 w o1 o2 hB hn1 hn2 hs hnm
end Go.Proofs.Ythfgblchlgodmaa
