/- The walk of Block (package sums): a state goes on with a block of 64 bytes, and what is no such block. Conditions: the state's words fit 32 bits. -/
import Derived.Test.YthfgblchlgodmaaWords
import Derived.Test.YthfgblchlgodmaaOrd
import Derived.Deep.RegionHeld3
import Derived.Deep.DeepCutAuto
import Derived.Laws.ResultCell
import Derived.Laws.Tables
import Derived.Deep.DeepMust
namespace Go.Proofs.Ythfgblchlgodmaa
open Go.RowKit
set_option linter.unusedVariables false

def rnd (t : Nat) (s : St) (x : Nat) : St :=
  ⟨(rotl s.a 5 + rndF (t / 20) s.b s.c s.d + s.e + rndK (t / 20) + x) % 4294967296, s.a, rotl s.b 30, s.c, s.d⟩
def runs (ws : List Nat) (s : St) : Nat → St
  | 0 => s
  | t + 1 => rnd t (runs ws s t) (ws.getD t 0)
def addSt (x s : St) : St := ⟨(x.a + s.a) % 4294967296, (x.b + s.b) % 4294967296, (x.c + s.c) % 4294967296, (x.d + s.d) % 4294967296, (x.e + s.e) % 4294967296⟩
def blockOf (s : St) (l : List UInt8) : St := addSt (runs (wl l 80) s 80) s
theorem rndF_lt {q b c d : Nat} (hb : b < 4294967296) (hc : c < 4294967296) (hd : d < 4294967296) : rndF q b c d < 4294967296 := by
  have hp : parF b c d < 4294967296 := Nat.xor_lt_two_pow (n := 32) (Nat.xor_lt_two_pow (n := 32) hb hc) hd
  unfold rndF
  split
  · exact Nat.or_lt_two_pow (n := 32) (Nat.and_lt_two_pow (n := 32) _ hc) (Nat.and_lt_two_pow (n := 32) _ hd)
  · split
    · exact hp
    · split
      · exact Nat.or_lt_two_pow (n := 32) (Nat.or_lt_two_pow (n := 32) (Nat.and_lt_two_pow (n := 32) _ hc) (Nat.and_lt_two_pow (n := 32) _ hd)) (Nat.and_lt_two_pow (n := 32) _ hd)
      · exact hp
theorem rnd_fits (t : Nat) (s : St) (x : Nat) (h : s.fits) : (rnd t s x).fits :=
  ⟨Nat.mod_lt _ (by decide), h.1, rotl_lt _ _ h.2.1, h.2.2.1, h.2.2.2.1⟩
theorem runs_fits (ws : List Nat) (s : St) (h : s.fits) : ∀ t, (runs ws s t).fits
  | 0 => h
  | t + 1 => rnd_fits t _ _ (runs_fits ws s h t)
theorem addSt_fits (x s : St) : (addSt x s).fits :=
  ⟨Nat.mod_lt _ (by decide), Nat.mod_lt _ (by decide), Nat.mod_lt _ (by decide), Nat.mod_lt _ (by decide), Nat.mod_lt _ (by decide)⟩

theorem still_five {o : Oper} {a : Act} {w : World} {K : Act → Prop} {x1 x2 x3 x4 x5 : Operand} {v1 v2 v3 v4 v5 : Int} (ho : o.op = .build 93 #[(0, x1), (1, x2), (2, x3), (3, x4), (4, x5)])
    (h1 : a.eval x1 = .int .u32 v1) (h2 : a.eval x2 = .int .u32 v2) (h3 : a.eval x3 = .int .u32 v3) (h4 : a.eval x4 = .int .u32 v4) (h5 : a.eval x5 = .int .u32 v5)
    (hk : K (a.put o.dst (.agg #[.int .u32 v1, .int .u32 v2, .int .u32 v3, .int .u32 v4, .int .u32 v5]))) : o.still Try.prog a w K := by
  unfold Oper.still execOp
  simp only [ho, Sem.run_bind, List.map_toArray, List.map_cons, List.map_nil, h1, h2, h3, h4, h5]
  rw [run_build w _ _ _ (show Try.prog.built 93 _ = some #[.int .u32 v1, .int .u32 v2, .int .u32 v3, .int .u32 v4, .int .u32 v5] by kernel_rfl)]
  exact ⟨rfl, hk⟩
attribute [local go_sem] cell_setCells_ne frozen_setCells
theorem blk5 {w : World} {g : Nat} {t : TypeId} {a b c d e : Value} (h : Blk w g t #[a, b, c, d, e]) :
    w.cell? ⟨g, 0, none⟩ = some a ∧ w.cell? ⟨g, 1, none⟩ = some b ∧ w.cell? ⟨g, 2, none⟩ = some c ∧ w.cell? ⟨g, 3, none⟩ = some d ∧ w.cell? ⟨g, 4, none⟩ = some e :=
  ⟨h.cell 0, h.cell 1, h.cell 2, h.cell 3, h.cell 4⟩

/-- a function whose results are a variable of several cells and a slot comes to its end -/
theorem bodyPost_cell_tmp {P : Program} {fn : Func} {p u : Tmp} {ty : TypeId} (hf : fn.results = #[.cell p ty, .tmp u]) {R : Ending → World → Prop} {a : Act} {w : World} {g : Nat} {t : TypeId} {cs : Array Value} {d : TypeDesc} {x : Value}
    (hp : a.tmps.getD p undef = .pointer (some ⟨g, 0, none⟩)) (hx : a.tmps.getD u undef = x) (hg : Blk w g t cs) (hu : P.underlying ty = some d) (hd : (match d with | .struct _ | .array _ _ => true | _ => false) = true) (hi : (P.info? ty).map (·.size) = some cs.size)
    (hdf : a.defers = []) (hR : R (.returned (.tuple #[.agg cs, x])) w) : bodyPost P fn R .ret a w :=
  bodyPost_ret (by rw [results_cell_tmp hf, hp]; simp only [asAddr, Sem.run_pure, Result.andThen_ok]; rw [run_loadVar_row w g t ty cs (0, 0) d hg hu hd hi, Result.andThen_ok, hx]) hdf hR

theorem block_bad (s : St) (A : Option Addr) (n c : Nat) (w : World) (hn : ¬ n = 64) (hm : n ≤ maxLen) :
    Calls Try.prog 58 #[.agg s.cells, .slice A n c] w fun e w' => e = .returned (.tuple #[.agg #[.int .u32 0, .int .u32 0, .int .u32 0, .int .u32 0, .int .u32 0], .int .i64 2]) ∧ Below w.heap.size w w' := by
  have hn' : ((n : Int) != 64) = true := by simp; omega
  unfold St.cells
  go_enter Try.func58, Try.ntmps58
  go_wp2_with fail
  refine bodyPost_ret (v := .tuple #[.agg #[.int .u32 0, .int .u32 0, .int .u32 0, .int .u32 0, .int .u32 0], .int .i64 2]) (by simp [results, Try.results58, go_sem]) rfl ⟨rfl, ((Below.refl _ _).alloc (Nat.le_refl _) _).alloc (by simp) _⟩


/-- what is known of the three variables while they are being laid, in whatever order -/
def Own3 (B : Nat) (w : World) (x : Value) (t : TypeId) (cs : Array Value) : Prop := ∃ g, x = .pointer (some ⟨g, 0, none⟩) ∧ B ≤ g ∧ Blk w g t cs
theorem Own3.below {B B' : Nat} {w w' : World} {x : Value} {t : TypeId} {cs : Array Value} (h : Own3 B w x t cs) (hb : Below B' w w') (hB : w.heap.size ≤ B') : Own3 B w' x t cs := by
  obtain ⟨g, hx, hg, hb3⟩ := h
  exact ⟨g, hx, hg, hb3.below hb (Nat.lt_of_lt_of_le hb3.lt hB)⟩
theorem Own3.alloc {B : Nat} {w : World} {x : Value} {t : TypeId} {cs : Array Value} (h : Own3 B w x t cs) (o : Obj) : Own3 B (w.alloc o) x t cs := by
  obtain ⟨g, hx, hg, hb3⟩ := h
  exact ⟨g, hx, hg, hb3.alloc o⟩
theorem Own3.row {B g : Nat} {w w' : World} {x : Value} {t t' : TypeId} {cs cs' : Array Value} (h : Own3 B w x t cs) (hr : RowSet w w' g) (hg : Blk w g t' cs') (hne : t ≠ t') : Own3 B w' x t cs := by
  obtain ⟨k, hx, hk, hb3⟩ := h
  refine ⟨k, hx, hk, hb3.row hr (fun e => ?_)⟩
  subst e
  unfold Blk at hb3 hg
  rw [hb3] at hg
  injection hg with hg
  injection hg with _ ht
  exact hne ht
theorem Own3.new {B : Nat} {w : World} (hB : B ≤ w.heap.size) (t : TypeId) (cs : Array Value) : Own3 B (w.alloc (.cells cs t)) (.pointer (some ⟨w.heap.size, 0, none⟩)) t cs := ⟨_, rfl, hB, Blk.new w t cs⟩
def five (s : St) : Array Value := #[.int .u32 s.a, .int .u32 s.b, .int .u32 s.c, .int .u32 s.d, .int .u32 s.e]
theorem five_one (s : St) : ∀ v ∈ (five s).toList, v.oneCell' = true := by
  intro v hv
  simp only [five, List.mem_cons, List.not_mem_nil, or_false] at hv
  rcases hv with rfl | rfl | rfl | rfl | rfl <;> rfl
theorem five_ints (a b c d e : Int) : ∀ v ∈ (#[Value.int .u32 a, .int .u32 b, .int .u32 c, .int .u32 d, .int .u32 e] : Array Value).toList, v.oneCell' = true := by
  intro v hv
  simp only [List.mem_cons, List.not_mem_nil, or_false] at hv
  rcases hv with rfl | rfl | rfl | rfl | rfl <;> rfl
def noRules : Array Value := #[.nilFunc, .int .u32 0, .nilFunc, .int .u32 0, .nilFunc, .int .u32 0, .nilFunc, .int .u32 0]
def five0 : Array Value := #[.int .u32 0, .int .u32 0, .int .u32 0, .int .u32 0, .int .u32 0]
def BlockInv (W0 : World) (h : Nat) (s : St) (A : Option Addr) (c : Nat) (cs : Array Value) (listed : Array Bool) (a : Act) (w : World) : Prop :=
  ∃ x6 x7 x8 x19 x20 x21 x22 : Value, a = ⟨#[.agg #[.int .u32 s.a, .int .u32 s.b, .int .u32 s.c, .int .u32 s.d, .int .u32 s.e], .slice A 64 c, .pointer (some ⟨h, 0, none⟩), undef, .pointer (some ⟨h + 1, 0, none⟩), .int .i64 0, x6, x7, x8, undef, undef, undef, undef, undef, undef, .slice A 64 c, .int .i64 64, .bool false, undef, x19, x20, x21, x22, undef, undef, undef, undef, undef, undef, undef, undef, undef, undef, undef, undef, undef, undef, undef, undef, undef, undef, undef, undef, undef, undef, undef, undef, undef, undef, undef, undef, undef, undef, undef, undef, undef, undef, undef, undef, undef, undef, undef, undef, undef, undef, undef, undef, undef, undef, undef, undef, undef, undef, undef, undef, undef, undef, undef], []⟩ ∧ Below W0.heap.size W0 w ∧
    (listed.getD 0 false = true → x19 = .slice A 64 c) ∧ (listed.getD 1 false = true → x20 = .agg cs) ∧ (listed.getD 2 false = true → x21 = .agg ruleCells) ∧ (listed.getD 3 false = true → x22 = .agg (five s)) ∧
    (listed.getD 4 false = true → Own3 W0.heap.size w x6 112 (if listed.getD 7 false then cs else wcells [] 0)) ∧
    (listed.getD 5 false = true → Own3 W0.heap.size w x7 117 (if listed.getD 8 false then ruleCells else noRules)) ∧
    (listed.getD 6 false = true → Own3 W0.heap.size w x8 93 (if listed.getD 9 false then five s else five0))

set_option maxRecDepth 100000 in
set_option maxHeartbeats 8000000 in
theorem block_any (s : St) (hs : s.fits) (A : Option Addr) (c : Nat) (l : List UInt8) (w : World) (hr : Reads w w.heap.size 1 A 64 (bvs l)) (hc : 64 ≤ c) (hcm : c ≤ maxLen) :
    Calls Try.prog 58 #[.agg s.cells, .slice A 64 c] w fun e w' => e = .returned (.tuple #[.agg (blockOf s l).cells, .int .i64 0]) ∧ Below w.heap.size w w' := by
  have hcells : s.cells = #[.int .u32 s.a, .int .u32 s.b, .int .u32 s.c, .int .u32 s.d, .int .u32 s.e] := rfl
  have hz8 : ∀ w, (zeroValue 112).run Try.prog w = .ok (.agg (wcells [] 0)) w := fun _ => by kernel_rfl
  have HC := hide hcells
  rw [hcells]
  clear hcells
  have hsz8 : (u32s (wl l 80)).size = (wcells [] 0).size := by rw [wcells_size]; exact (u32s_size _).trans (wl_length l 80)
  have hone8 := u32s_one (wl l 80)
  have hi8 : (Try.prog.info? 112).map (·.size) = some (wcells [] 0).size := by rw [wcells_size]; kernel_rfl
  have hwords := fun (W : World) (h : Reads W W.heap.size 1 A 64 (bvs l)) => words_any A c l W h hc hcm
  have hi8' : (Try.prog.info? 112).map (·.size) = some (u32s (wl l 80)).toList.length := by rw [Array.length_toList, hsz8, wcells_size]; kernel_rfl
  have hu8 := Try.underlying112
  generalize hcs : u32s (wl l 80) = cs at *
  have HCS := hide hcs
  have HWD := hide hwords
  clear hcs hwords
  go_enter Try.func58, Try.ntmps58
  go_upto_region 3 with (fail)
  have hB0 : Blk ((w.alloc (.cells #[.int .u32 s.a, .int .u32 s.b, .int .u32 s.c, .int .u32 s.d, .int .u32 s.e] 93)).alloc (.cells #[.int .u32 0, .int .u32 0, .int .u32 0, .int .u32 0, .int .u32 0] 93)) w.heap.size 93 #[.int .u32 s.a, .int .u32 s.b, .int .u32 s.c, .int .u32 s.d, .int .u32 s.e] := (Blk.new _ _ _).alloc _
  have hB1 : Blk ((w.alloc (.cells #[.int .u32 s.a, .int .u32 s.b, .int .u32 s.c, .int .u32 s.d, .int .u32 s.e] 93)).alloc (.cells #[.int .u32 0, .int .u32 0, .int .u32 0, .int .u32 0, .int .u32 0] 93)) (w.heap.size + 1) 93 #[.int .u32 0, .int .u32 0, .int .u32 0, .int .u32 0, .int .u32 0] := by
    have := Blk.new (w.alloc (.cells #[.int .u32 s.a, .int .u32 s.b, .int .u32 s.c, .int .u32 s.d, .int .u32 s.e] 93)) 93 #[.int .u32 0, .int .u32 0, .int .u32 0, .int .u32 0, .int .u32 0]
    simpa using this
  have hbw : Below w.heap.size w ((w.alloc (.cells #[.int .u32 s.a, .int .u32 s.b, .int .u32 s.c, .int .u32 s.d, .int .u32 s.e] 93)).alloc (.cells #[.int .u32 0, .int .u32 0, .int .u32 0, .int .u32 0, .int .u32 0] 93)) := ((Below.refl _ _).alloc (Nat.le_refl _) _).alloc (by simp) _
  have hsz0 : w.heap.size + 2 ≤ ((w.alloc (.cells #[.int .u32 s.a, .int .u32 s.b, .int .u32 s.c, .int .u32 s.d, .int .u32 s.e] 93)).alloc (.cells #[.int .u32 0, .int .u32 0, .int .u32 0, .int .u32 0, .int .u32 0] 93)).heap.size := by simp
  generalize ((w.alloc (.cells #[.int .u32 s.a, .int .u32 s.b, .int .u32 s.c, .int .u32 s.d, .int .u32 s.e] 93)).alloc (.cells #[.int .u32 0, .int .u32 0, .int .u32 0, .int .u32 0, .int .u32 0] 93)) = W0 at *
  go_cut [6, 7, 8] (fun s6 s7 s8 wx => ∃ g6 g7 g8 : Nat, s6 = .pointer (some ⟨g6, 0, none⟩) ∧ s7 = .pointer (some ⟨g7, 0, none⟩) ∧ s8 = .pointer (some ⟨g8, 0, none⟩) ∧ Blk wx g6 112 cs ∧ Blk wx g7 117 ruleCells ∧
    Blk wx g8 93 #[.int .u32 s.a, .int .u32 s.b, .int .u32 s.c, .int .u32 s.d, .int .u32 s.e] ∧ Below W0.heap.size W0 wx ∧ W0.heap.size ≤ g6 ∧ W0.heap.size ≤ g7 ∧ W0.heap.size ≤ g8)
  case first =>
    have hlt0 : w.heap.size < W0.heap.size := hB0.lt
    have hrW : Reads W0 W0.heap.size 1 A 64 (bvs l) := (hr.below hbw).more (by omega)
    refine any_region_inv (by kernel_rfl) (by kernel_rfl) (BlockInv W0 w.heap.size s A c cs) ?_ ?_ ?_
    · exact ⟨undef, undef, undef, undef, undef, undef, undef, rfl, (Below.refl _ _).drew, by simp, by simp, by simp, by simp, by simp, by simp, by simp⟩
    · rintro listed a W i oi hi hlsz hcl hun hdep ⟨x6, x7, x8, x19, x20, x21, x22, rfl, hW, h0, h1, h2, h3, h4, h5, h6⟩
      have hi10 : i < 10 := (List.getElem?_eq_some_iff.1 hi).1
      have hcase : i = 0 ∨ i = 1 ∨ i = 2 ∨ i = 3 ∨ i = 4 ∨ i = 5 ∨ i = 6 ∨ i = 7 ∨ i = 8 ∨ i = 9 := by omega
      rcases hcase with rfl | rfl | rfl | rfl | rfl | rfl | rfl | rfl | rfl | rfl
      all_goals (obtain rfl := Option.some.inj hi)
      · go_wp2_with fail
        refine ⟨x6, x7, x8, .slice A 64 c, x20, x21, x22, rfl, hW, ?_⟩
        simp only [getD_set_ne false (show (0 : Nat) ≠ 1 by decide), getD_set_ne false (show (0 : Nat) ≠ 2 by decide), getD_set_ne false (show (0 : Nat) ≠ 3 by decide), getD_set_ne false (show (0 : Nat) ≠ 4 by decide), getD_set_ne false (show (0 : Nat) ≠ 5 by decide), getD_set_ne false (show (0 : Nat) ≠ 6 by decide), getD_set_ne false (show (0 : Nat) ≠ 7 by decide), getD_set_ne false (show (0 : Nat) ≠ 8 by decide), getD_set_ne false (show (0 : Nat) ≠ 9 by decide)]
        exact ⟨fun _ => trivial, h1, h2, h3, h4, h5, h6⟩
      · have hx : x19 = .slice A 64 c := h0 (hdep ⟨0, .data⟩ (by simp) (by decide))
        subst hx
        have hrW' := hrW.below hW
        go_wp2_with (first | (go_at_call 67; refine (HWD.out _ (hrW'.more hW.size)).mono ?_; rintro e w1 ⟨rfl, hb1⟩))
        refine ⟨x6, x7, x8, .slice A 64 c, .agg cs, x21, x22, rfl, hW.trans (hb1.mono hW.size), ?_⟩
        simp only [getD_set_ne false (show (1 : Nat) ≠ 0 by decide), getD_set_ne false (show (1 : Nat) ≠ 2 by decide), getD_set_ne false (show (1 : Nat) ≠ 3 by decide), getD_set_ne false (show (1 : Nat) ≠ 4 by decide), getD_set_ne false (show (1 : Nat) ≠ 5 by decide), getD_set_ne false (show (1 : Nat) ≠ 6 by decide), getD_set_ne false (show (1 : Nat) ≠ 7 by decide), getD_set_ne false (show (1 : Nat) ≠ 8 by decide), getD_set_ne false (show (1 : Nat) ≠ 9 by decide)]
        exact ⟨h0, fun _ => trivial, h2, h3, fun hh => (h4 hh).below hb1 (Nat.le_refl _), fun hh => (h5 hh).below hb1 (Nat.le_refl _), fun hh => (h6 hh).below hb1 (Nat.le_refl _)⟩
      · go_wp2_with (first | (go_at_call 68; refine (rules_any _).mono ?_; rintro e w1 ⟨rfl, hb1⟩))
        refine ⟨x6, x7, x8, x19, x20, .agg ruleCells, x22, rfl, hW.trans (hb1.mono hW.size), ?_⟩
        simp only [getD_set_ne false (show (2 : Nat) ≠ 0 by decide), getD_set_ne false (show (2 : Nat) ≠ 1 by decide), getD_set_ne false (show (2 : Nat) ≠ 3 by decide), getD_set_ne false (show (2 : Nat) ≠ 4 by decide), getD_set_ne false (show (2 : Nat) ≠ 5 by decide), getD_set_ne false (show (2 : Nat) ≠ 6 by decide), getD_set_ne false (show (2 : Nat) ≠ 7 by decide), getD_set_ne false (show (2 : Nat) ≠ 8 by decide), getD_set_ne false (show (2 : Nat) ≠ 9 by decide)]
        exact ⟨h0, h1, fun _ => trivial, h3, fun hh => (h4 hh).below hb1 (Nat.le_refl _), fun hh => (h5 hh).below hb1 (Nat.le_refl _), fun hh => (h6 hh).below hb1 (Nat.le_refl _)⟩
      · have hB0W := hB0.below hW hlt0
        go_wp2_with (first | (refine wpList_load_row rfl 93 (.tmp 2) rfl w.heap.size rfl 93 (five s) (0, 0) _ hB0W Try.underlying93 rfl (by kernel_rfl) ?_))
        refine ⟨x6, x7, x8, x19, x20, x21, .agg (five s), rfl, hW, ?_⟩
        simp only [getD_set_ne false (show (3 : Nat) ≠ 0 by decide), getD_set_ne false (show (3 : Nat) ≠ 1 by decide), getD_set_ne false (show (3 : Nat) ≠ 2 by decide), getD_set_ne false (show (3 : Nat) ≠ 4 by decide), getD_set_ne false (show (3 : Nat) ≠ 5 by decide), getD_set_ne false (show (3 : Nat) ≠ 6 by decide), getD_set_ne false (show (3 : Nat) ≠ 7 by decide), getD_set_ne false (show (3 : Nat) ≠ 8 by decide), getD_set_ne false (show (3 : Nat) ≠ 9 by decide)]
        exact ⟨h0, h1, h2, fun _ => trivial, h4, h5, h6⟩
      · have hno : listed.getD 7 false = false := hcl.later 7 rfl ⟨4, .data⟩ (by simp) (by decide) hun
        go_wp2_with fail
        refine ⟨.pointer (some ⟨W.heap.size, 0, none⟩), x7, x8, x19, x20, x21, x22, rfl, hW.alloc hW.size _, ?_⟩
        simp only [getD_set_ne false (show (4 : Nat) ≠ 0 by decide), getD_set_ne false (show (4 : Nat) ≠ 1 by decide), getD_set_ne false (show (4 : Nat) ≠ 2 by decide), getD_set_ne false (show (4 : Nat) ≠ 3 by decide), getD_set_ne false (show (4 : Nat) ≠ 5 by decide), getD_set_ne false (show (4 : Nat) ≠ 6 by decide), getD_set_ne false (show (4 : Nat) ≠ 7 by decide), getD_set_ne false (show (4 : Nat) ≠ 8 by decide), getD_set_ne false (show (4 : Nat) ≠ 9 by decide)]
        have hnew : (listed.setIfInBounds 4 true).getD 4 false = true → Own3 W0.heap.size (W.alloc (.cells (wcells [] 0) 112)) (.pointer (some ⟨W.heap.size, 0, none⟩)) 112 (if listed.getD 7 false = true then cs else (wcells [] 0)) := fun _ => by
          rw [hno]; exact Own3.new hW.size _ _
        exact ⟨h0, h1, h2, h3, hnew, fun hh => (h5 hh).alloc _, fun hh => (h6 hh).alloc _⟩
      · have hno : listed.getD 8 false = false := hcl.later 8 rfl ⟨5, .data⟩ (by simp) (by decide) hun
        go_wp2_with fail
        refine ⟨x6, .pointer (some ⟨W.heap.size, 0, none⟩), x8, x19, x20, x21, x22, rfl, hW.alloc hW.size _, ?_⟩
        simp only [getD_set_ne false (show (5 : Nat) ≠ 0 by decide), getD_set_ne false (show (5 : Nat) ≠ 1 by decide), getD_set_ne false (show (5 : Nat) ≠ 2 by decide), getD_set_ne false (show (5 : Nat) ≠ 3 by decide), getD_set_ne false (show (5 : Nat) ≠ 4 by decide), getD_set_ne false (show (5 : Nat) ≠ 6 by decide), getD_set_ne false (show (5 : Nat) ≠ 7 by decide), getD_set_ne false (show (5 : Nat) ≠ 8 by decide), getD_set_ne false (show (5 : Nat) ≠ 9 by decide)]
        have hnew : (listed.setIfInBounds 5 true).getD 5 false = true → Own3 W0.heap.size (W.alloc (.cells noRules 117)) (.pointer (some ⟨W.heap.size, 0, none⟩)) 117 (if listed.getD 8 false = true then ruleCells else noRules) := fun _ => by
          rw [hno]; exact Own3.new hW.size _ _
        exact ⟨h0, h1, h2, h3, fun hh => (h4 hh).alloc _, hnew, fun hh => (h6 hh).alloc _⟩
      · have hno : listed.getD 9 false = false := hcl.later 9 rfl ⟨6, .data⟩ (by simp) (by decide) hun
        go_wp2_with fail
        refine ⟨x6, x7, .pointer (some ⟨W.heap.size, 0, none⟩), x19, x20, x21, x22, rfl, hW.alloc hW.size _, ?_⟩
        simp only [getD_set_ne false (show (6 : Nat) ≠ 0 by decide), getD_set_ne false (show (6 : Nat) ≠ 1 by decide), getD_set_ne false (show (6 : Nat) ≠ 2 by decide), getD_set_ne false (show (6 : Nat) ≠ 3 by decide), getD_set_ne false (show (6 : Nat) ≠ 4 by decide), getD_set_ne false (show (6 : Nat) ≠ 5 by decide), getD_set_ne false (show (6 : Nat) ≠ 7 by decide), getD_set_ne false (show (6 : Nat) ≠ 8 by decide), getD_set_ne false (show (6 : Nat) ≠ 9 by decide)]
        have hnew : (listed.setIfInBounds 6 true).getD 6 false = true → Own3 W0.heap.size (W.alloc (.cells five0 93)) (.pointer (some ⟨W.heap.size, 0, none⟩)) 93 (if listed.getD 9 false = true then five s else five0) := fun _ => by
          rw [hno]; exact Own3.new hW.size _ _
        exact ⟨h0, h1, h2, h3, fun hh => (h4 hh).alloc _, fun hh => (h5 hh).alloc _, hnew⟩
      · obtain ⟨g, hx1, hg, hblk⟩ := h4 (hdep ⟨4, .data⟩ (by simp) (by decide))
        have hx2 := h1 (hdep ⟨1, .data⟩ (by simp) (by decide))
        subst hx1; subst hx2
        rw [hun, if_neg (by decide)] at hblk
        go_wp2_with (first | (refine wpList_store_row rfl 112 (.tmp 6) (.tmp 20) rfl g rfl rfl hblk hsz8 hone8 hi8 ?_; intro w2 hrs hb2))
        refine ⟨.pointer (some ⟨g, 0, none⟩), x7, x8, x19, .agg cs, x21, x22, rfl, hW.trans (hrs.below hg), ?_⟩
        simp only [getD_set_ne false (show (7 : Nat) ≠ 0 by decide), getD_set_ne false (show (7 : Nat) ≠ 1 by decide), getD_set_ne false (show (7 : Nat) ≠ 2 by decide), getD_set_ne false (show (7 : Nat) ≠ 3 by decide), getD_set_ne false (show (7 : Nat) ≠ 4 by decide), getD_set_ne false (show (7 : Nat) ≠ 5 by decide), getD_set_ne false (show (7 : Nat) ≠ 6 by decide), getD_set_ne false (show (7 : Nat) ≠ 8 by decide), getD_set_ne false (show (7 : Nat) ≠ 9 by decide)]
        have hl7 : (listed.setIfInBounds 7 true).getD 7 false = true := by simp [Array.getD_eq_getD_getElem?, hlsz]
        have hnew : listed.getD 4 false = true → Own3 W0.heap.size w2 (.pointer (some ⟨g, 0, none⟩)) 112 (if (listed.setIfInBounds 7 true).getD 7 false = true then cs else (wcells [] 0)) := fun _ => by
          rw [if_pos hl7]; exact ⟨g, rfl, hg, hb2⟩
        exact ⟨h0, h1, h2, h3, hnew, fun hh => (h5 hh).row hrs hblk (by decide), fun hh => (h6 hh).row hrs hblk (by decide)⟩
      · obtain ⟨g, hx1, hg, hblk⟩ := h5 (hdep ⟨5, .data⟩ (by simp) (by decide))
        have hx2 := h2 (hdep ⟨2, .data⟩ (by simp) (by decide))
        subst hx1; subst hx2
        rw [hun, if_neg (by decide)] at hblk
        go_wp2_with (first | (refine wpList_store_row rfl 117 (.tmp 7) (.tmp 21) rfl g rfl rfl hblk rfl (by simp [ruleCells]; decide) (by kernel_rfl) ?_; intro w2 hrs hb2))
        refine ⟨x6, .pointer (some ⟨g, 0, none⟩), x8, x19, x20, .agg ruleCells, x22, rfl, hW.trans (hrs.below hg), ?_⟩
        simp only [getD_set_ne false (show (8 : Nat) ≠ 0 by decide), getD_set_ne false (show (8 : Nat) ≠ 1 by decide), getD_set_ne false (show (8 : Nat) ≠ 2 by decide), getD_set_ne false (show (8 : Nat) ≠ 3 by decide), getD_set_ne false (show (8 : Nat) ≠ 4 by decide), getD_set_ne false (show (8 : Nat) ≠ 5 by decide), getD_set_ne false (show (8 : Nat) ≠ 6 by decide), getD_set_ne false (show (8 : Nat) ≠ 7 by decide), getD_set_ne false (show (8 : Nat) ≠ 9 by decide)]
        have hl8 : (listed.setIfInBounds 8 true).getD 8 false = true := by simp [Array.getD_eq_getD_getElem?, hlsz]
        have hnew : listed.getD 5 false = true → Own3 W0.heap.size w2 (.pointer (some ⟨g, 0, none⟩)) 117 (if (listed.setIfInBounds 8 true).getD 8 false = true then ruleCells else noRules) := fun _ => by
          rw [if_pos hl8]; exact ⟨g, rfl, hg, hb2⟩
        exact ⟨h0, h1, h2, h3, fun hh => (h4 hh).row hrs hblk (by decide), hnew, fun hh => (h6 hh).row hrs hblk (by decide)⟩
      · obtain ⟨g, hx1, hg, hblk⟩ := h6 (hdep ⟨6, .data⟩ (by simp) (by decide))
        have hx2 := h3 (hdep ⟨3, .data⟩ (by simp) (by decide))
        subst hx1; subst hx2
        rw [hun, if_neg (by decide)] at hblk
        go_wp2_with (first | (refine wpList_store_row rfl 93 (.tmp 8) (.tmp 22) rfl g rfl rfl hblk rfl (five_one s) (by kernel_rfl) ?_; intro w2 hrs hb2))
        refine ⟨x6, x7, .pointer (some ⟨g, 0, none⟩), x19, x20, x21, .agg (five s), rfl, hW.trans (hrs.below hg), ?_⟩
        simp only [getD_set_ne false (show (9 : Nat) ≠ 0 by decide), getD_set_ne false (show (9 : Nat) ≠ 1 by decide), getD_set_ne false (show (9 : Nat) ≠ 2 by decide), getD_set_ne false (show (9 : Nat) ≠ 3 by decide), getD_set_ne false (show (9 : Nat) ≠ 4 by decide), getD_set_ne false (show (9 : Nat) ≠ 5 by decide), getD_set_ne false (show (9 : Nat) ≠ 6 by decide), getD_set_ne false (show (9 : Nat) ≠ 7 by decide), getD_set_ne false (show (9 : Nat) ≠ 8 by decide)]
        have hl9 : (listed.setIfInBounds 9 true).getD 9 false = true := by simp [Array.getD_eq_getD_getElem?, hlsz]
        have hnew : listed.getD 6 false = true → Own3 W0.heap.size w2 (.pointer (some ⟨g, 0, none⟩)) 93 (if (listed.setIfInBounds 9 true).getD 9 false = true then (five s) else five0) := fun _ => by
          rw [if_pos hl9]; exact ⟨g, rfl, hg, hb2⟩
        exact ⟨h0, h1, h2, h3, fun hh => (h4 hh).row hrs hblk (by decide), fun hh => (h5 hh).row hrs hblk (by decide), hnew⟩
    · rintro listed a W hall ⟨x6, x7, x8, x19, x20, x21, x22, rfl, hW, h0, h1, h2, h3, h4, h5, h6⟩
      obtain ⟨g6, hx6, hg6, hk6⟩ := h4 (hall 4 (by decide))
      obtain ⟨g7, hx7, hg7, hk7⟩ := h5 (hall 5 (by decide))
      obtain ⟨g8, hx8, hg8, hk8⟩ := h6 (hall 6 (by decide))
      subst hx6; subst hx7; subst hx8
      rw [hall 7 (by decide), if_pos rfl] at hk6
      rw [hall 8 (by decide), if_pos rfl] at hk7
      rw [hall 9 (by decide), if_pos rfl] at hk8
      go_wp2_with fail
      go_meet
      exact ⟨g6, g7, g8, rfl, rfl, rfl, hk6, hk7, hk8, hW, hg6, hg7, hg8⟩
  case rest =>
    obtain ⟨g6, g7, g8, rfl, rfl, rfl, hk6, hk7, hk8, hW, hg6, hg7, hg8⟩ := hcut
    have hB0c := hB0.below hW hB0.lt
    have hB1c := hB1.below hW hB1.lt
    have hbwc : Below w.heap.size w wc := hbw.trans (hW.mono hbw.size)
    have hszc : W0.heap.size ≤ wc.heap.size := hW.size
    clear hB0 hB1 hbw hW hr hz8
    have hw32 := wl_all l 80
    have hcsat : ∀ t, t < 80 → cs[t]? = some (.int .u32 ((wl l 80).getD t 0 : Nat)) := by
      intro t ht
      rw [← HCS.out]
      have hlen := wl_length l 80
      simp [u32s, List.getD_eq_getElem?_getD, hlen, ht]
    have HCSAT := hide hcsat
    clear hcsat
    have HSZ8 := hide hsz8
    have HI8 := hide hi8'
    clear hi8' hi8 hsz8 HWD hone8 hu8
    go_wp2_with (first | (refine wpList_load_row rfl 112 (.tmp 6) rfl g6 rfl 112 _ (0, 0) _ hk6 Try.underlying112 rfl (by rw [HI8.out, Array.length_toList]) ?_))
    generalize hwl : wl l 80 = ws at *
    have HWL := hide hwl
    clear hwl
    clear HI8 HSZ8
    go_loopw [9, 10, 11, 12, 24] (fun _ _ _ _ i wr => ∃ t : Nat, t ≤ 80 ∧ i = .int .i64 t ∧ Blk wr g7 117 ruleCells ∧ Blk wr g8 93 (five (runs ws s t)) ∧ Blk wr w.heap.size 93 (five s) ∧ Blk wr (w.heap.size + 1) 93 five0 ∧ Below w.heap.size w wr ∧ W0.heap.size ≤ wr.heap.size)
      (fun _ _ _ _ i _ => 80 - (intOf i).toNat)
    case atStart => exact ⟨0, by omega, rfl, hk7, hk8, hB0c, hB1c, hbwc, hszc⟩
    case round =>
      clear hk7 hk8 hB0c hB1c hbwc hszc hk6
      obtain ⟨t, ht, rfl, hk7, hk8, hB0, hB1, hbw, hsz⟩ := hrel
      by_cases h80 : t < 80
      · have h80' : (t : Int) < 80 := by omega
        have hcst := HCSAT.out t h80
        have hix := fun W => run_index_one (P := Try.prog) 112 Try.underlying112 Try.underlying92 (by kernel_rfl) h80 hcst .i64 W
        have hx32 := hw32.at_ t
        have HRS : Hid (runs ws s (t + 1) = rnd t (runs ws s t) (ws.getD t 0)) := rfl
        have hfit := runs_fits ws s hs t
        generalize ws.getD t 0 = x at *
        generalize runs ws s t = p at *
        obtain ⟨a1, b1, c1, d1, e1⟩ := p
        simp only [five] at hk8
        obtain ⟨hf1, hf2, hf3, hf4, hf5⟩ := hfit
        simp only at hf1 hf2 hf3 hf4 hf5
        have hq : t / 20 = 0 ∨ t / 20 = 1 ∨ t / 20 = 2 ∨ t / 20 = 3 := by omega
        rcases hq with hq | hq | hq | hq
        · as_aux_lemma =>
            have hqI : (t : Int) / 20 = 0 := by omega
            have hr0 : wr.cell? ⟨g7, 0, none⟩ = some (.func (.func 74) #[] #[]) := by rw [hk7.cell]; rfl
            have hr1 : wr.cell? ⟨g7, 1, none⟩ = some (.int .u32 1518500249) := by rw [hk7.cell]; rfl
            have HQ := hide hq
            clear hq
            go_wp2_with fail
            have hk7' := hk7.alloc (.cells #[.func (.func 74) #[] #[], .int .u32 1518500249] 116)
            have hk8' := hk8.alloc (.cells #[.func (.func 74) #[] #[], .int .u32 1518500249] 116)
            have hB0' := hB0.alloc (.cells #[.func (.func 74) #[] #[], .int .u32 1518500249] 116)
            have hB1' := hB1.alloc (.cells #[.func (.func 74) #[] #[], .int .u32 1518500249] 116)
            have hbw' := hbw.alloc hbw.size (.cells #[.func (.func 74) #[] #[], .int .u32 1518500249] 116)
            have hsz' : W0.heap.size ≤ (wr.alloc (.cells #[.func (.func 74) #[] #[], .int .u32 1518500249] 116)).heap.size := by simp; omega
            have hkr : Blk (wr.alloc (.cells #[.func (.func 74) #[] #[], .int .u32 1518500249] 116)) wr.heap.size 116 #[.func (.func 74) #[] #[], .int .u32 1518500249] := Blk.new _ _ _
            clear hk7 hk8 hB0 hB1 hbw hsz hr0 hr1
            generalize wr.alloc (.cells #[.func (.func 74) #[] #[], .int .u32 1518500249] 116) = W1 at *
            obtain ⟨q0, q1, q2, q3, q4⟩ := blk5 hk8'
            have r0 : W1.cell? ⟨wr.heap.size, 0, none⟩ = some (.func (.func 74) #[] #[]) := hkr.cell 0
            have r1 : W1.cell? ⟨wr.heap.size, 1, none⟩ = some (.int .u32 1518500249) := hkr.cell 1
            go_quiet ((first | (go_at_call 69; exact Calls.quiet_of_same (rot5_any _ hf1 _)) | (go_at_call 74; exact Calls.quiet_of_same (rule2_any _ _ _ hf2 hf3 hf4 _))))
            go_wp2_with fail
            replace hk7' : Blk (W1.drewN nq) g7 117 ruleCells := hk7'
            replace hk8' : Blk (W1.drewN nq) g8 93 #[.int .u32 a1, .int .u32 b1, .int .u32 c1, .int .u32 d1, .int .u32 e1] := hk8'
            replace hB0' : Blk (W1.drewN nq) w.heap.size 93 (five s) := hB0'
            replace hB1' : Blk (W1.drewN nq) (w.heap.size + 1) 93 five0 := hB1'
            replace hbw' : Below w.heap.size w (W1.drewN nq) := below_drewN hbw' _
            replace hsz' : W0.heap.size ≤ (W1.drewN nq).heap.size := hsz'
            clear q0 q1 q2 q3 q4 r0 r1 hkr
            generalize W1.drewN nq = W2 at *
            obtain ⟨q0, q1, q2, q3, q4⟩ := blk5 hk8'
            refine wp_region_still_tail 11 (by kernel_rfl) (by kernel_rfl) ?_
            simp only [List.take_succ_cons, List.take_zero, List.drop_succ_cons, List.drop_zero]
            repeat still_step
            still_call (rot30_any _ hf2 _)
            generalize hnx : (((rotl a1 5 : Nat) : Int) + ((chF b1 c1 d1 : Nat) : Int) + (e1 : Int) + 1518500249 + (x : Int)) % 4294967296 = nx
            have HNX := hide hnx
            clear hnx
            still_step
            still_step
            still_step
            still_step
            refine wpStill_step (fun K hK => ?_)
            rw [if_pos (by kernel_rfl)]
            refine still_five (v1 := nx) (v2 := a1) (v3 := (rotl b1 30 : Nat)) (v4 := c1) (v5 := d1) rfl (by rfl) (by rfl) (by rfl) (by rfl) (by rfl) ?_
            go_simp
            refine hK _ ?_
            clear hK K
            refine wpStill_nil ?_
            change wpList _ _ _ _ _ W2.drew
            replace hk7' : Blk W2.drew g7 117 ruleCells := hk7'
            replace hk8' : Blk W2.drew g8 93 #[.int .u32 a1, .int .u32 b1, .int .u32 c1, .int .u32 d1, .int .u32 e1] := hk8'
            replace hB0' : Blk W2.drew w.heap.size 93 (five s) := hB0'
            replace hB1' : Blk W2.drew (w.heap.size + 1) 93 five0 := hB1'
            replace hbw' : Below w.heap.size w W2.drew := hbw'.drew
            replace hsz' : W0.heap.size ≤ W2.drew.heap.size := hsz'
            clear q0 q1 q2 q3 q4
            generalize W2.drew = W3 at *
            have hne78 : g7 ≠ g8 := hk7'.ne_ hk8' (by decide)
            go_wp2_with (first | (refine wpList_store_row (cs' := #[.int .u32 nx, .int .u32 a1, .int .u32 (rotl b1 30 : Nat), .int .u32 c1, .int .u32 d1]) rfl 93 (.tmp 8) (.tmp 63) rfl g8 rfl rfl hk8' (show (5 : Nat) = 5 from rfl) (five_ints _ _ _ _ _) (by kernel_rfl) ?_; intro W4 hrs hb4))
            go_roundw
            case rel =>
              refine ⟨t + 1, by omega, by go_num, hk7'.row hrs hne78, ?_, hB0'.row hrs (by omega), hB1'.row hrs (by omega), hbw'.trans (hrs.below (by omega)), by rw [hrs.2.1]; exact hsz'⟩
              have hval : ((rotl a1 5 : Nat) : Int) + ((chF b1 c1 d1 : Nat) : Int) + (e1 : Int) + 1518500249 + (x : Int) = ((rotl a1 5 + rndF (t / 20) b1 c1 d1 + e1 + rndK (t / 20) + x : Nat) : Int) := by
                rw [HQ.out]; simp [rndF, rndK]
              rw [HRS.out]
              unfold five rnd
              simp only
              rw [Int.natCast_emod, ← hval, show ((4294967296 : Nat) : Int) = 4294967296 from rfl, HNX.out]
              exact hb4
            case measure => simp [intOf]; omega
        · as_aux_lemma =>
            have hqI : (t : Int) / 20 = 1 := by omega
            have hr0 : wr.cell? ⟨g7, 2, none⟩ = some (.func (.func 73) #[] #[]) := by rw [hk7.cell]; rfl
            have hr1 : wr.cell? ⟨g7, 3, none⟩ = some (.int .u32 1859775393) := by rw [hk7.cell]; rfl
            have HQ := hide hq
            clear hq
            go_wp2_with fail
            have hk7' := hk7.alloc (.cells #[.func (.func 73) #[] #[], .int .u32 1859775393] 116)
            have hk8' := hk8.alloc (.cells #[.func (.func 73) #[] #[], .int .u32 1859775393] 116)
            have hB0' := hB0.alloc (.cells #[.func (.func 73) #[] #[], .int .u32 1859775393] 116)
            have hB1' := hB1.alloc (.cells #[.func (.func 73) #[] #[], .int .u32 1859775393] 116)
            have hbw' := hbw.alloc hbw.size (.cells #[.func (.func 73) #[] #[], .int .u32 1859775393] 116)
            have hsz' : W0.heap.size ≤ (wr.alloc (.cells #[.func (.func 73) #[] #[], .int .u32 1859775393] 116)).heap.size := by simp; omega
            have hkr : Blk (wr.alloc (.cells #[.func (.func 73) #[] #[], .int .u32 1859775393] 116)) wr.heap.size 116 #[.func (.func 73) #[] #[], .int .u32 1859775393] := Blk.new _ _ _
            clear hk7 hk8 hB0 hB1 hbw hsz hr0 hr1
            generalize wr.alloc (.cells #[.func (.func 73) #[] #[], .int .u32 1859775393] 116) = W1 at *
            obtain ⟨q0, q1, q2, q3, q4⟩ := blk5 hk8'
            have r0 : W1.cell? ⟨wr.heap.size, 0, none⟩ = some (.func (.func 73) #[] #[]) := hkr.cell 0
            have r1 : W1.cell? ⟨wr.heap.size, 1, none⟩ = some (.int .u32 1859775393) := hkr.cell 1
            go_quiet ((first | (go_at_call 69; exact Calls.quiet_of_same (rot5_any _ hf1 _)) | (go_at_call 73; exact Calls.quiet_of_same (rule1_any _ _ _ hf2 hf3 hf4 _))))
            go_wp2_with fail
            replace hk7' : Blk (W1.drewN nq) g7 117 ruleCells := hk7'
            replace hk8' : Blk (W1.drewN nq) g8 93 #[.int .u32 a1, .int .u32 b1, .int .u32 c1, .int .u32 d1, .int .u32 e1] := hk8'
            replace hB0' : Blk (W1.drewN nq) w.heap.size 93 (five s) := hB0'
            replace hB1' : Blk (W1.drewN nq) (w.heap.size + 1) 93 five0 := hB1'
            replace hbw' : Below w.heap.size w (W1.drewN nq) := below_drewN hbw' _
            replace hsz' : W0.heap.size ≤ (W1.drewN nq).heap.size := hsz'
            clear q0 q1 q2 q3 q4 r0 r1 hkr
            generalize W1.drewN nq = W2 at *
            obtain ⟨q0, q1, q2, q3, q4⟩ := blk5 hk8'
            refine wp_region_still_tail 11 (by kernel_rfl) (by kernel_rfl) ?_
            simp only [List.take_succ_cons, List.take_zero, List.drop_succ_cons, List.drop_zero]
            repeat still_step
            still_call (rot30_any _ hf2 _)
            generalize hnx : (((rotl a1 5 : Nat) : Int) + ((parF b1 c1 d1 : Nat) : Int) + (e1 : Int) + 1859775393 + (x : Int)) % 4294967296 = nx
            have HNX := hide hnx
            clear hnx
            still_step
            still_step
            still_step
            still_step
            refine wpStill_step (fun K hK => ?_)
            rw [if_pos (by kernel_rfl)]
            refine still_five (v1 := nx) (v2 := a1) (v3 := (rotl b1 30 : Nat)) (v4 := c1) (v5 := d1) rfl (by rfl) (by rfl) (by rfl) (by rfl) (by rfl) ?_
            go_simp
            refine hK _ ?_
            clear hK K
            refine wpStill_nil ?_
            change wpList _ _ _ _ _ W2.drew
            replace hk7' : Blk W2.drew g7 117 ruleCells := hk7'
            replace hk8' : Blk W2.drew g8 93 #[.int .u32 a1, .int .u32 b1, .int .u32 c1, .int .u32 d1, .int .u32 e1] := hk8'
            replace hB0' : Blk W2.drew w.heap.size 93 (five s) := hB0'
            replace hB1' : Blk W2.drew (w.heap.size + 1) 93 five0 := hB1'
            replace hbw' : Below w.heap.size w W2.drew := hbw'.drew
            replace hsz' : W0.heap.size ≤ W2.drew.heap.size := hsz'
            clear q0 q1 q2 q3 q4
            generalize W2.drew = W3 at *
            have hne78 : g7 ≠ g8 := hk7'.ne_ hk8' (by decide)
            go_wp2_with (first | (refine wpList_store_row (cs' := #[.int .u32 nx, .int .u32 a1, .int .u32 (rotl b1 30 : Nat), .int .u32 c1, .int .u32 d1]) rfl 93 (.tmp 8) (.tmp 63) rfl g8 rfl rfl hk8' (show (5 : Nat) = 5 from rfl) (five_ints _ _ _ _ _) (by kernel_rfl) ?_; intro W4 hrs hb4))
            go_roundw
            case rel =>
              refine ⟨t + 1, by omega, by go_num, hk7'.row hrs hne78, ?_, hB0'.row hrs (by omega), hB1'.row hrs (by omega), hbw'.trans (hrs.below (by omega)), by rw [hrs.2.1]; exact hsz'⟩
              have hval : ((rotl a1 5 : Nat) : Int) + ((parF b1 c1 d1 : Nat) : Int) + (e1 : Int) + 1859775393 + (x : Int) = ((rotl a1 5 + rndF (t / 20) b1 c1 d1 + e1 + rndK (t / 20) + x : Nat) : Int) := by
                rw [HQ.out]; simp [rndF, rndK]
              rw [HRS.out]
              unfold five rnd
              simp only
              rw [Int.natCast_emod, ← hval, show ((4294967296 : Nat) : Int) = 4294967296 from rfl, HNX.out]
              exact hb4
            case measure => simp [intOf]; omega
        · as_aux_lemma =>
            have hqI : (t : Int) / 20 = 2 := by omega
            have hr0 : wr.cell? ⟨g7, 4, none⟩ = some (.func (.func 75) #[] #[]) := by rw [hk7.cell]; rfl
            have hr1 : wr.cell? ⟨g7, 5, none⟩ = some (.int .u32 2400959708) := by rw [hk7.cell]; rfl
            have HQ := hide hq
            clear hq
            go_wp2_with fail
            have hk7' := hk7.alloc (.cells #[.func (.func 75) #[] #[], .int .u32 2400959708] 116)
            have hk8' := hk8.alloc (.cells #[.func (.func 75) #[] #[], .int .u32 2400959708] 116)
            have hB0' := hB0.alloc (.cells #[.func (.func 75) #[] #[], .int .u32 2400959708] 116)
            have hB1' := hB1.alloc (.cells #[.func (.func 75) #[] #[], .int .u32 2400959708] 116)
            have hbw' := hbw.alloc hbw.size (.cells #[.func (.func 75) #[] #[], .int .u32 2400959708] 116)
            have hsz' : W0.heap.size ≤ (wr.alloc (.cells #[.func (.func 75) #[] #[], .int .u32 2400959708] 116)).heap.size := by simp; omega
            have hkr : Blk (wr.alloc (.cells #[.func (.func 75) #[] #[], .int .u32 2400959708] 116)) wr.heap.size 116 #[.func (.func 75) #[] #[], .int .u32 2400959708] := Blk.new _ _ _
            clear hk7 hk8 hB0 hB1 hbw hsz hr0 hr1
            generalize wr.alloc (.cells #[.func (.func 75) #[] #[], .int .u32 2400959708] 116) = W1 at *
            obtain ⟨q0, q1, q2, q3, q4⟩ := blk5 hk8'
            have r0 : W1.cell? ⟨wr.heap.size, 0, none⟩ = some (.func (.func 75) #[] #[]) := hkr.cell 0
            have r1 : W1.cell? ⟨wr.heap.size, 1, none⟩ = some (.int .u32 2400959708) := hkr.cell 1
            go_quiet ((first | (go_at_call 69; exact Calls.quiet_of_same (rot5_any _ hf1 _)) | (go_at_call 75; exact Calls.quiet_of_same (rule3_any _ _ _ hf2 hf3 hf4 _))))
            go_wp2_with fail
            replace hk7' : Blk (W1.drewN nq) g7 117 ruleCells := hk7'
            replace hk8' : Blk (W1.drewN nq) g8 93 #[.int .u32 a1, .int .u32 b1, .int .u32 c1, .int .u32 d1, .int .u32 e1] := hk8'
            replace hB0' : Blk (W1.drewN nq) w.heap.size 93 (five s) := hB0'
            replace hB1' : Blk (W1.drewN nq) (w.heap.size + 1) 93 five0 := hB1'
            replace hbw' : Below w.heap.size w (W1.drewN nq) := below_drewN hbw' _
            replace hsz' : W0.heap.size ≤ (W1.drewN nq).heap.size := hsz'
            clear q0 q1 q2 q3 q4 r0 r1 hkr
            generalize W1.drewN nq = W2 at *
            obtain ⟨q0, q1, q2, q3, q4⟩ := blk5 hk8'
            refine wp_region_still_tail 11 (by kernel_rfl) (by kernel_rfl) ?_
            simp only [List.take_succ_cons, List.take_zero, List.drop_succ_cons, List.drop_zero]
            repeat still_step
            still_call (rot30_any _ hf2 _)
            generalize hnx : (((rotl a1 5 : Nat) : Int) + ((majF b1 c1 d1 : Nat) : Int) + (e1 : Int) + 2400959708 + (x : Int)) % 4294967296 = nx
            have HNX := hide hnx
            clear hnx
            still_step
            still_step
            still_step
            still_step
            refine wpStill_step (fun K hK => ?_)
            rw [if_pos (by kernel_rfl)]
            refine still_five (v1 := nx) (v2 := a1) (v3 := (rotl b1 30 : Nat)) (v4 := c1) (v5 := d1) rfl (by rfl) (by rfl) (by rfl) (by rfl) (by rfl) ?_
            go_simp
            refine hK _ ?_
            clear hK K
            refine wpStill_nil ?_
            change wpList _ _ _ _ _ W2.drew
            replace hk7' : Blk W2.drew g7 117 ruleCells := hk7'
            replace hk8' : Blk W2.drew g8 93 #[.int .u32 a1, .int .u32 b1, .int .u32 c1, .int .u32 d1, .int .u32 e1] := hk8'
            replace hB0' : Blk W2.drew w.heap.size 93 (five s) := hB0'
            replace hB1' : Blk W2.drew (w.heap.size + 1) 93 five0 := hB1'
            replace hbw' : Below w.heap.size w W2.drew := hbw'.drew
            replace hsz' : W0.heap.size ≤ W2.drew.heap.size := hsz'
            clear q0 q1 q2 q3 q4
            generalize W2.drew = W3 at *
            have hne78 : g7 ≠ g8 := hk7'.ne_ hk8' (by decide)
            go_wp2_with (first | (refine wpList_store_row (cs' := #[.int .u32 nx, .int .u32 a1, .int .u32 (rotl b1 30 : Nat), .int .u32 c1, .int .u32 d1]) rfl 93 (.tmp 8) (.tmp 63) rfl g8 rfl rfl hk8' (show (5 : Nat) = 5 from rfl) (five_ints _ _ _ _ _) (by kernel_rfl) ?_; intro W4 hrs hb4))
            go_roundw
            case rel =>
              refine ⟨t + 1, by omega, by go_num, hk7'.row hrs hne78, ?_, hB0'.row hrs (by omega), hB1'.row hrs (by omega), hbw'.trans (hrs.below (by omega)), by rw [hrs.2.1]; exact hsz'⟩
              have hval : ((rotl a1 5 : Nat) : Int) + ((majF b1 c1 d1 : Nat) : Int) + (e1 : Int) + 2400959708 + (x : Int) = ((rotl a1 5 + rndF (t / 20) b1 c1 d1 + e1 + rndK (t / 20) + x : Nat) : Int) := by
                rw [HQ.out]; simp [rndF, rndK]
              rw [HRS.out]
              unfold five rnd
              simp only
              rw [Int.natCast_emod, ← hval, show ((4294967296 : Nat) : Int) = 4294967296 from rfl, HNX.out]
              exact hb4
            case measure => simp [intOf]; omega
        · as_aux_lemma =>
            have hqI : (t : Int) / 20 = 3 := by omega
            have hr0 : wr.cell? ⟨g7, 6, none⟩ = some (.func (.func 73) #[] #[]) := by rw [hk7.cell]; rfl
            have hr1 : wr.cell? ⟨g7, 7, none⟩ = some (.int .u32 3395469782) := by rw [hk7.cell]; rfl
            have HQ := hide hq
            clear hq
            go_wp2_with fail
            have hk7' := hk7.alloc (.cells #[.func (.func 73) #[] #[], .int .u32 3395469782] 116)
            have hk8' := hk8.alloc (.cells #[.func (.func 73) #[] #[], .int .u32 3395469782] 116)
            have hB0' := hB0.alloc (.cells #[.func (.func 73) #[] #[], .int .u32 3395469782] 116)
            have hB1' := hB1.alloc (.cells #[.func (.func 73) #[] #[], .int .u32 3395469782] 116)
            have hbw' := hbw.alloc hbw.size (.cells #[.func (.func 73) #[] #[], .int .u32 3395469782] 116)
            have hsz' : W0.heap.size ≤ (wr.alloc (.cells #[.func (.func 73) #[] #[], .int .u32 3395469782] 116)).heap.size := by simp; omega
            have hkr : Blk (wr.alloc (.cells #[.func (.func 73) #[] #[], .int .u32 3395469782] 116)) wr.heap.size 116 #[.func (.func 73) #[] #[], .int .u32 3395469782] := Blk.new _ _ _
            clear hk7 hk8 hB0 hB1 hbw hsz hr0 hr1
            generalize wr.alloc (.cells #[.func (.func 73) #[] #[], .int .u32 3395469782] 116) = W1 at *
            obtain ⟨q0, q1, q2, q3, q4⟩ := blk5 hk8'
            have r0 : W1.cell? ⟨wr.heap.size, 0, none⟩ = some (.func (.func 73) #[] #[]) := hkr.cell 0
            have r1 : W1.cell? ⟨wr.heap.size, 1, none⟩ = some (.int .u32 3395469782) := hkr.cell 1
            go_quiet ((first | (go_at_call 69; exact Calls.quiet_of_same (rot5_any _ hf1 _)) | (go_at_call 73; exact Calls.quiet_of_same (rule1_any _ _ _ hf2 hf3 hf4 _))))
            go_wp2_with fail
            replace hk7' : Blk (W1.drewN nq) g7 117 ruleCells := hk7'
            replace hk8' : Blk (W1.drewN nq) g8 93 #[.int .u32 a1, .int .u32 b1, .int .u32 c1, .int .u32 d1, .int .u32 e1] := hk8'
            replace hB0' : Blk (W1.drewN nq) w.heap.size 93 (five s) := hB0'
            replace hB1' : Blk (W1.drewN nq) (w.heap.size + 1) 93 five0 := hB1'
            replace hbw' : Below w.heap.size w (W1.drewN nq) := below_drewN hbw' _
            replace hsz' : W0.heap.size ≤ (W1.drewN nq).heap.size := hsz'
            clear q0 q1 q2 q3 q4 r0 r1 hkr
            generalize W1.drewN nq = W2 at *
            obtain ⟨q0, q1, q2, q3, q4⟩ := blk5 hk8'
            refine wp_region_still_tail 11 (by kernel_rfl) (by kernel_rfl) ?_
            simp only [List.take_succ_cons, List.take_zero, List.drop_succ_cons, List.drop_zero]
            repeat still_step
            still_call (rot30_any _ hf2 _)
            generalize hnx : (((rotl a1 5 : Nat) : Int) + ((parF b1 c1 d1 : Nat) : Int) + (e1 : Int) + 3395469782 + (x : Int)) % 4294967296 = nx
            have HNX := hide hnx
            clear hnx
            still_step
            still_step
            still_step
            still_step
            refine wpStill_step (fun K hK => ?_)
            rw [if_pos (by kernel_rfl)]
            refine still_five (v1 := nx) (v2 := a1) (v3 := (rotl b1 30 : Nat)) (v4 := c1) (v5 := d1) rfl (by rfl) (by rfl) (by rfl) (by rfl) (by rfl) ?_
            go_simp
            refine hK _ ?_
            clear hK K
            refine wpStill_nil ?_
            change wpList _ _ _ _ _ W2.drew
            replace hk7' : Blk W2.drew g7 117 ruleCells := hk7'
            replace hk8' : Blk W2.drew g8 93 #[.int .u32 a1, .int .u32 b1, .int .u32 c1, .int .u32 d1, .int .u32 e1] := hk8'
            replace hB0' : Blk W2.drew w.heap.size 93 (five s) := hB0'
            replace hB1' : Blk W2.drew (w.heap.size + 1) 93 five0 := hB1'
            replace hbw' : Below w.heap.size w W2.drew := hbw'.drew
            replace hsz' : W0.heap.size ≤ W2.drew.heap.size := hsz'
            clear q0 q1 q2 q3 q4
            generalize W2.drew = W3 at *
            have hne78 : g7 ≠ g8 := hk7'.ne_ hk8' (by decide)
            go_wp2_with (first | (refine wpList_store_row (cs' := #[.int .u32 nx, .int .u32 a1, .int .u32 (rotl b1 30 : Nat), .int .u32 c1, .int .u32 d1]) rfl 93 (.tmp 8) (.tmp 63) rfl g8 rfl rfl hk8' (show (5 : Nat) = 5 from rfl) (five_ints _ _ _ _ _) (by kernel_rfl) ?_; intro W4 hrs hb4))
            go_roundw
            case rel =>
              refine ⟨t + 1, by omega, by go_num, hk7'.row hrs hne78, ?_, hB0'.row hrs (by omega), hB1'.row hrs (by omega), hbw'.trans (hrs.below (by omega)), by rw [hrs.2.1]; exact hsz'⟩
              have hval : ((rotl a1 5 : Nat) : Int) + ((parF b1 c1 d1 : Nat) : Int) + (e1 : Int) + 3395469782 + (x : Int) = ((rotl a1 5 + rndF (t / 20) b1 c1 d1 + e1 + rndK (t / 20) + x : Nat) : Int) := by
                rw [HQ.out]; simp [rndF, rndK]
              rw [HRS.out]
              unfold five rnd
              simp only
              rw [Int.natCast_emod, ← hval, show ((4294967296 : Nat) : Int) = 4294967296 from rfl, HNX.out]
              exact hb4
            case measure => simp [intOf]; omega
      · generalize wr = wr0 at *
        have h80' : ¬ (t : Int) < 80 := by omega
        have he : t = 80 := by omega
        rw [he] at hk8
        have HRS : Hid (blockOf s l = addSt (runs ws s 80) s) := by rw [show ws = wl l 80 from HWL.out.symm]; rfl
        have hfit := runs_fits ws s hs 80
        generalize runs ws s 80 = r at *
        clear hk7 hcm HCSAT HCS hw32
        go_wp2_with (first | (refine wpList_load_row rfl 93 (.tmp 2) rfl w.heap.size rfl 93 (five s) (0, 0) _ hB0 Try.underlying93 rfl (by kernel_rfl) ?_))
        have hws : w.heap.size < g8 := by omega
        have hw1 : w.heap.size + 1 ≠ g8 := by omega
        simp only [five] at hk8
        have hi0 : ∀ W : World, (Instr.index 93 (.agg (five s)) (.int .i64 0)).run Try.prog W = .ok (.int .u32 s.a) W := fun (W : World) => run_index_one (i := 0) 93 Try.underlying93 Try.underlying92 (by kernel_rfl) (by decide) (show (five s)[0]? = some (.int .u32 s.a) from rfl) .i64 W
        have hi1 : ∀ W : World, (Instr.index 93 (.agg (five s)) (.int .i64 1)).run Try.prog W = .ok (.int .u32 s.b) W := fun (W : World) => run_index_one (i := 1) 93 Try.underlying93 Try.underlying92 (by kernel_rfl) (by decide) (show (five s)[1]? = some (.int .u32 s.b) from rfl) .i64 W
        have hi2 : ∀ W : World, (Instr.index 93 (.agg (five s)) (.int .i64 2)).run Try.prog W = .ok (.int .u32 s.c) W := fun (W : World) => run_index_one (i := 2) 93 Try.underlying93 Try.underlying92 (by kernel_rfl) (by decide) (show (five s)[2]? = some (.int .u32 s.c) from rfl) .i64 W
        have hi3 : ∀ W : World, (Instr.index 93 (.agg (five s)) (.int .i64 3)).run Try.prog W = .ok (.int .u32 s.d) W := fun (W : World) => run_index_one (i := 3) 93 Try.underlying93 Try.underlying92 (by kernel_rfl) (by decide) (show (five s)[3]? = some (.int .u32 s.d) from rfl) .i64 W
        have hi4 : ∀ W : World, (Instr.index 93 (.agg (five s)) (.int .i64 4)).run Try.prog W = .ok (.int .u32 s.e) W := fun (W : World) => run_index_one (i := 4) 93 Try.underlying93 Try.underlying92 (by kernel_rfl) (by decide) (show (five s)[4]? = some (.int .u32 s.e) from rfl) .i64 W
        refine wp_loop_rounds 6 ?_
        have qc : wr0.cell? ⟨g8, 0, none⟩ = some (.int .u32 (r.a : Nat)) := hk8.cell 0
        have qf := hk8.frozen 0
        rw [rounds_succ]
        go_wp2_with fail
        replace hk8 : Blk (wr0.setCell ⟨g8, 0, none⟩ (Value.int .u32 ((((r.a : Nat) : Int) + ((s.a : Nat) : Int)) % 4294967296))) g8 93 #[(Value.int .u32 ((((r.a : Nat) : Int) + ((s.a : Nat) : Int)) % 4294967296)), .int .u32 (r.b : Nat), .int .u32 (r.c : Nat), .int .u32 (r.d : Nat), .int .u32 (r.e : Nat)] := hk8.set_ 0 _
        replace hB0 := hB0.far (p := ⟨g8, 0, none⟩) (Nat.ne_of_lt hws) (Value.int .u32 ((((r.a : Nat) : Int) + ((s.a : Nat) : Int)) % 4294967296))
        replace hB1 := hB1.far (p := ⟨g8, 0, none⟩) hw1 (Value.int .u32 ((((r.a : Nat) : Int) + ((s.a : Nat) : Int)) % 4294967296))
        replace hbw := hbw.setCell (p := ⟨g8, 0, none⟩) (Nat.le_of_lt hws) (Value.int .u32 ((((r.a : Nat) : Int) + ((s.a : Nat) : Int)) % 4294967296))
        clear qc qf
        generalize wr0.setCell ⟨g8, 0, none⟩ (Value.int .u32 ((((r.a : Nat) : Int) + ((s.a : Nat) : Int)) % 4294967296)) = wr1 at *
        have qc : wr1.cell? ⟨g8, 1, none⟩ = some (.int .u32 (r.b : Nat)) := hk8.cell 1
        have qf := hk8.frozen 1
        rw [rounds_succ]
        go_wp2_with fail
        replace hk8 : Blk (wr1.setCell ⟨g8, 1, none⟩ (Value.int .u32 ((((r.b : Nat) : Int) + ((s.b : Nat) : Int)) % 4294967296))) g8 93 #[(Value.int .u32 ((((r.a : Nat) : Int) + ((s.a : Nat) : Int)) % 4294967296)), (Value.int .u32 ((((r.b : Nat) : Int) + ((s.b : Nat) : Int)) % 4294967296)), .int .u32 (r.c : Nat), .int .u32 (r.d : Nat), .int .u32 (r.e : Nat)] := hk8.set_ 1 _
        replace hB0 := hB0.far (p := ⟨g8, 1, none⟩) (Nat.ne_of_lt hws) (Value.int .u32 ((((r.b : Nat) : Int) + ((s.b : Nat) : Int)) % 4294967296))
        replace hB1 := hB1.far (p := ⟨g8, 1, none⟩) hw1 (Value.int .u32 ((((r.b : Nat) : Int) + ((s.b : Nat) : Int)) % 4294967296))
        replace hbw := hbw.setCell (p := ⟨g8, 1, none⟩) (Nat.le_of_lt hws) (Value.int .u32 ((((r.b : Nat) : Int) + ((s.b : Nat) : Int)) % 4294967296))
        clear qc qf
        generalize wr1.setCell ⟨g8, 1, none⟩ (Value.int .u32 ((((r.b : Nat) : Int) + ((s.b : Nat) : Int)) % 4294967296)) = wr2 at *
        have qc : wr2.cell? ⟨g8, 2, none⟩ = some (.int .u32 (r.c : Nat)) := hk8.cell 2
        have qf := hk8.frozen 2
        rw [rounds_succ]
        go_wp2_with fail
        replace hk8 : Blk (wr2.setCell ⟨g8, 2, none⟩ (Value.int .u32 ((((r.c : Nat) : Int) + ((s.c : Nat) : Int)) % 4294967296))) g8 93 #[(Value.int .u32 ((((r.a : Nat) : Int) + ((s.a : Nat) : Int)) % 4294967296)), (Value.int .u32 ((((r.b : Nat) : Int) + ((s.b : Nat) : Int)) % 4294967296)), (Value.int .u32 ((((r.c : Nat) : Int) + ((s.c : Nat) : Int)) % 4294967296)), .int .u32 (r.d : Nat), .int .u32 (r.e : Nat)] := hk8.set_ 2 _
        replace hB0 := hB0.far (p := ⟨g8, 2, none⟩) (Nat.ne_of_lt hws) (Value.int .u32 ((((r.c : Nat) : Int) + ((s.c : Nat) : Int)) % 4294967296))
        replace hB1 := hB1.far (p := ⟨g8, 2, none⟩) hw1 (Value.int .u32 ((((r.c : Nat) : Int) + ((s.c : Nat) : Int)) % 4294967296))
        replace hbw := hbw.setCell (p := ⟨g8, 2, none⟩) (Nat.le_of_lt hws) (Value.int .u32 ((((r.c : Nat) : Int) + ((s.c : Nat) : Int)) % 4294967296))
        clear qc qf
        generalize wr2.setCell ⟨g8, 2, none⟩ (Value.int .u32 ((((r.c : Nat) : Int) + ((s.c : Nat) : Int)) % 4294967296)) = wr3 at *
        have qc : wr3.cell? ⟨g8, 3, none⟩ = some (.int .u32 (r.d : Nat)) := hk8.cell 3
        have qf := hk8.frozen 3
        rw [rounds_succ]
        go_wp2_with fail
        replace hk8 : Blk (wr3.setCell ⟨g8, 3, none⟩ (Value.int .u32 ((((r.d : Nat) : Int) + ((s.d : Nat) : Int)) % 4294967296))) g8 93 #[(Value.int .u32 ((((r.a : Nat) : Int) + ((s.a : Nat) : Int)) % 4294967296)), (Value.int .u32 ((((r.b : Nat) : Int) + ((s.b : Nat) : Int)) % 4294967296)), (Value.int .u32 ((((r.c : Nat) : Int) + ((s.c : Nat) : Int)) % 4294967296)), (Value.int .u32 ((((r.d : Nat) : Int) + ((s.d : Nat) : Int)) % 4294967296)), .int .u32 (r.e : Nat)] := hk8.set_ 3 _
        replace hB0 := hB0.far (p := ⟨g8, 3, none⟩) (Nat.ne_of_lt hws) (Value.int .u32 ((((r.d : Nat) : Int) + ((s.d : Nat) : Int)) % 4294967296))
        replace hB1 := hB1.far (p := ⟨g8, 3, none⟩) hw1 (Value.int .u32 ((((r.d : Nat) : Int) + ((s.d : Nat) : Int)) % 4294967296))
        replace hbw := hbw.setCell (p := ⟨g8, 3, none⟩) (Nat.le_of_lt hws) (Value.int .u32 ((((r.d : Nat) : Int) + ((s.d : Nat) : Int)) % 4294967296))
        clear qc qf
        generalize wr3.setCell ⟨g8, 3, none⟩ (Value.int .u32 ((((r.d : Nat) : Int) + ((s.d : Nat) : Int)) % 4294967296)) = wr4 at *
        have qc : wr4.cell? ⟨g8, 4, none⟩ = some (.int .u32 (r.e : Nat)) := hk8.cell 4
        have qf := hk8.frozen 4
        rw [rounds_succ]
        go_wp2_with fail
        replace hk8 : Blk (wr4.setCell ⟨g8, 4, none⟩ (Value.int .u32 ((((r.e : Nat) : Int) + ((s.e : Nat) : Int)) % 4294967296))) g8 93 #[(Value.int .u32 ((((r.a : Nat) : Int) + ((s.a : Nat) : Int)) % 4294967296)), (Value.int .u32 ((((r.b : Nat) : Int) + ((s.b : Nat) : Int)) % 4294967296)), (Value.int .u32 ((((r.c : Nat) : Int) + ((s.c : Nat) : Int)) % 4294967296)), (Value.int .u32 ((((r.d : Nat) : Int) + ((s.d : Nat) : Int)) % 4294967296)), (Value.int .u32 ((((r.e : Nat) : Int) + ((s.e : Nat) : Int)) % 4294967296))] := hk8.set_ 4 _
        replace hB0 := hB0.far (p := ⟨g8, 4, none⟩) (Nat.ne_of_lt hws) (Value.int .u32 ((((r.e : Nat) : Int) + ((s.e : Nat) : Int)) % 4294967296))
        replace hB1 := hB1.far (p := ⟨g8, 4, none⟩) hw1 (Value.int .u32 ((((r.e : Nat) : Int) + ((s.e : Nat) : Int)) % 4294967296))
        replace hbw := hbw.setCell (p := ⟨g8, 4, none⟩) (Nat.le_of_lt hws) (Value.int .u32 ((((r.e : Nat) : Int) + ((s.e : Nat) : Int)) % 4294967296))
        clear qc qf
        generalize wr4.setCell ⟨g8, 4, none⟩ (Value.int .u32 ((((r.e : Nat) : Int) + ((s.e : Nat) : Int)) % 4294967296)) = wr5 at *
        rw [rounds_succ]
        go_wp2_with (first
          | (refine wpList_load_row rfl 93 (.tmp 8) rfl g8 rfl 93 _ (0, 0) _ hk8 Try.underlying93 rfl (by kernel_rfl) ?_)
          | (refine wpList_store_row rfl 93 (.tmp 4) (.tmp 77) rfl (w.heap.size + 1) rfl rfl hB1 (show (5 : Nat) = 5 from rfl) (five_ints _ _ _ _ _) (by kernel_rfl) ?_; intro w6 hrs6 hb6))
        refine bodyPost_cell_tmp Try.results58 (g := w.heap.size + 1) (x := .int .i64 0) rfl rfl hb6 Try.underlying93 rfl (by kernel_rfl) rfl ⟨?_, hbw.trans (hrs6.below (by omega))⟩
        rw [HRS.out]
        unfold addSt St.cells
        simp only [Int.natCast_emod, Int.natCast_add, show ((4294967296 : Nat) : Int) = 4294967296 from rfl]
end Go.Proofs.Ythfgblchlgodmaa
