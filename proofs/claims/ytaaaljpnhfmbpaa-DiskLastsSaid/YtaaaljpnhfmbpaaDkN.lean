/- The walk of works, and of DiskNames (package taborlaw02). Conditions: those of each theorem. -/
import Derived.Test.YtaaaljpnhfmbpaaDkM
import Derived.Lib.SlBytesConst
namespace Go.Proofs.Ytaaaljpnhfmbpaa
open Go.RowKit Go.Shelf
set_option linter.unusedVariables false

theorem append_new {B g r m cm : Nat} {fs : List FP} {st lf : Int} {M : Option Addr} {name : ByteArray} {l : List UInt8} (w : World) (h : DK B w g r fs st false lf) (hB : B ≤ w.heap.size) (hM : Reads w w.heap.size 1 M m (bvs l)) (hs : name.size ≤ 140737488351232) (hx : nameDS name = true) (hst0 : 0 ≤ st) (hst1 : st ≤ 1000000)
    (hfind : fs.find? (fun f => decide (f.name = name)) = none) (hfit : m ≤ 1048576) :
    Calls Try.prog 23 #[.pointer (some ⟨g, 0, none⟩), .string name, .slice M m cm] w fun e w' => e = .returned (.int .i64 0) ∧ (∃ p' A' c', DK B w' g r (fs ++ [⟨name, p', A', m, c', l, 0⟩]) (st + 1) false lf) ∧ Below B w w' :=
  (append_call w h hB hM (fun E w' => E = 0 ∧ (∃ p' A' c', DK B w' g r (fs ++ [⟨name, p', A', m, c', l, 0⟩]) (st + 1) false lf) ∧ Below B w w') fun w1 bs bd bn bb h1 hB1 hb1 hin =>
    (done_app_new w1 h1 hB1 hin hs hx (by omega) hst0 hst1 hfind hfit).mono fun e w' ⟨he, p', A', c', hd, hb⟩ => ⟨0, he, rfl, ⟨p', A', c', hd⟩, hb1.trans hb⟩).mono fun e w' ⟨E, he, hE, h2, h3⟩ => ⟨by rw [he, hE], h2, h3⟩
theorem append_there {B g r m cm : Nat} {fs : List FP} {st lf : Int} {M : Option Addr} {name : ByteArray} {l : List UInt8} {f : FP} (w : World) (h : DK B w g r fs st false lf) (hB : B ≤ w.heap.size) (hM : Reads w w.heap.size 1 M m (bvs l)) (hs : name.size ≤ 140737488351232) (hx : nameDS name = true) (hst0 : 0 ≤ st) (hst1 : st ≤ 1000000)
    (hfind : fs.find? (fun f => decide (f.name = name)) = some f) (hfit : f.n + m ≤ 1048576) :
    Calls Try.prog 23 #[.pointer (some ⟨g, 0, none⟩), .string name, .slice M m cm] w fun e w' => e = .returned (.int .i64 0) ∧ (∃ A' c', DK B w' g r (updF fs ⟨name, f.p, A', f.n + m, c', f.b ++ l, f.sy⟩) (st + 1) false lf) ∧ Below B w w' :=
  (append_call w h hB hM (fun E w' => E = 0 ∧ (∃ A' c', DK B w' g r (updF fs ⟨name, f.p, A', f.n + m, c', f.b ++ l, f.sy⟩) (st + 1) false lf) ∧ Below B w w') fun w1 bs bd bn bb h1 hB1 hb1 hin =>
    (done_app_there w1 h1 hB1 hin hs hx (by omega) hst0 hst1 hfind hfit).mono fun e w' ⟨he, A', c', hd, hb⟩ => ⟨0, he, rfl, ⟨A', c', hd⟩, hb1.trans hb⟩).mono fun e w' ⟨E, he, hE, h2, h3⟩ => ⟨by rw [he, hE], h2, h3⟩

theorem const_reads (w : World) (e : TypeId) (l : List UInt8) (f : Nat × Nat) : Reads (w.alloc (.cells (bvs l).toArray e f)) (w.alloc (.cells (bvs l).toArray e f)).heap.size 1 (some ⟨w.heap.size, 0, none⟩) l.length (bvs l) := by
  refine ⟨by rw [bvs_length]; omega, fun _ => ⟨_, _, rfl, by simp, fun j u hu => ?_⟩⟩
  have hb : (w.alloc (.cells (bvs l).toArray e f)).heap[w.heap.size]? = some (.cells (bvs l).toArray e f) := World.alloc_heap_new w _
  rw [Nat.zero_add, cell_of_row _ _ _ _ _ _ hb]
  simpa using hu
theorem run_eql_file1 (w : World) : (binOp .eql 27 (.agg #[.string ⟨#[97]⟩, .string ⟨#[120, 121]⟩, .int .i64 2]) (.agg #[.string ⟨#[97]⟩, .string ⟨#[120, 121]⟩, .int .i64 2])).run Try.prog w = .ok (.bool true) w := by kernel_rfl
theorem updF_one (f f' : FP) (h : f.p = f'.p) : updF [f] f' = [f'] := by
  unfold updF
  rw [List.map_cons, List.map_nil, if_pos h]
theorem fdat_one {fs : List FP} {d : FD} (h : fs.map fdat = [d]) : ∃ f, fs = [f] ∧ f.name = d.1 ∧ f.b = d.2.1 ∧ f.sy = d.2.2 := by
  cases fs with
  | nil => cases h
  | cons f r =>
    cases r with
    | nil =>
      injection h with h _
      exact ⟨f, rfl, by rw [← h]; rfl, by rw [← h]; rfl, by rw [← h]; rfl⟩
    | cons f2 r => simp at h
/-- a row of files of which there is one -/
theorem file_row {w : World} {B : Nat} {v : Value} {x : FP} (h : w.ownsRow B 27 3 v 1 (fvs [x])) : ∃ A c, v = .slice (some ⟨A, 0, none⟩) 1 c ∧ w.cell? ⟨A, 0, none⟩ = some (.string x.name) ∧ w.cell? ⟨A, 1, none⟩ = some (.string ⟨x.b.toArray⟩) ∧ w.cell? ⟨A, 2, none⟩ = some (.int .i64 x.sy) := by
  obtain ⟨g, cap, hv, _, hlt⟩ := h.form (by decide)
  subst hv
  have hcl := h.cells (g := g) rfl
  refine ⟨g, cap, rfl, ?_, ?_, ?_⟩
  · have := hcl 0 (.string x.name) rfl
    rwa [add_lit] at this
  · have := hcl 1 (.string ⟨x.b.toArray⟩) rfl
    rwa [add_lit] at this
  · have := hcl 2 (.int .i64 x.sy) rfl
    rwa [add_lit] at this

set_option maxHeartbeats 4000000 in
set_option maxRecDepth 100000 in
theorem works_any (w : World) : Calls Try.prog 12 #[] w fun e w' => e = .returned (.bool true) ∧ Below w.heap.size w w' := by
  have hcs := fun (w : World) (C : Array Value) (n c : Nat) => Lib.run_convert_bytes_const (P := Try.prog) w 35 5 C n c Try.underlying35 Try.underlying5
  have hxa : nameDS ⟨#[97]⟩ = true := by kernel_rfl
  have hxn := hide (name_any ⟨#[97, 46, 49, 45, 98]⟩)
  go_enter Try.func12, Try.ntmps12
  go_upto_region 2 with (first
    | (go_at_call 31; go_must (refine (dnew_any w).mono ?_; rintro e w1 ⟨g, r, rfl, hd1, hb1⟩))
    | fail)
  have hl2 : w.heap.size ≤ w1.heap.size := hb1.size
  go_upto_region 3 with (first
    | (go_at_call 23
       go_must (
       have hb2 : Below w1.heap.size w1 (w1.alloc (.cells #[.int .u8 120, .int .u8 121] 5 (2, 3))) := (Below.refl _ w1).alloc (Nat.le_refl _) _
       refine (append_new (l := [120, 121]) (w1.alloc (.cells #[.int .u8 120, .int .u8 121] 5 (2, 3))) (hd1.below hb2) (Nat.le_trans hl2 hb2.size) (const_reads w1 5 [120, 121] (2, 3)) (by decide) hxa (by decide) (by decide) rfl (by decide)).mono ?_
       rintro e w2 ⟨rfl, ⟨p, A, c, hd2⟩, hb3⟩
       have hbw2 : Below w.heap.size w w2 := hb1.trans ((hb2.mono hl2).trans hb3)))
    | fail)
  clear hd1 hb1 hb2 hb3 hl2
  go_upto_region 4 with (first
    | (go_at_call 22
       go_must (
       refine (sync_there w2 hd2 hbw2.size (by decide) hxa (by decide) (by decide) rfl).mono ?_
       rintro e w3 ⟨rfl, hd3, hb3⟩))
    | fail)
  rw [List.nil_append, updF_one _ _ (by rfl)] at hd3
  have hbw3 := hbw2.trans hb3
  clear hd2 hb3 hbw2
  go_upto_region 5 with (first
    | (go_at_call 23
       go_must (
       have hb2 : Below w3.heap.size w3 (w3.alloc (.cells #[.int .u8 122] 5 (1, 2))) := (Below.refl _ w3).alloc (Nat.le_refl _) _
       refine (append_there (l := [122]) (w3.alloc (.cells #[.int .u8 122] 5 (1, 2))) (hd3.below hb2) (Nat.le_trans hbw3.size hb2.size) (const_reads w3 5 [122] (1, 2)) (by decide) hxa (by decide) (by decide) rfl (by show 2 + 1 ≤ 1048576; decide)).mono ?_
       rintro e w4 ⟨rfl, ⟨A4, c4, hd4⟩, hb4⟩
       have hbw4 : Below w.heap.size w w4 := hbw3.trans ((hb2.mono hbw3.size).trans hb4)))
    | fail)
  rw [updF_one _ _ (by rfl)] at hd4
  clear hd3 hb4 hbw3
  have hs4 : ∀ x ∈ [(⟨⟨#[97]⟩, p, A4, [(120 : UInt8), 121].length + [(122 : UInt8)].length, c4, [120, 121] ++ [122], [(120 : UInt8), 121].length⟩ : FP)], x.name.size ≤ maxLen := fun x hx => by rw [List.mem_singleton.1 hx]; show (1 : Nat) ≤ maxLen; decide
  have hz4 : ∀ x ∈ [(⟨⟨#[97]⟩, p, A4, [(120 : UInt8), 121].length + [(122 : UInt8)].length, c4, [120, 121] ++ [122], [(120 : UInt8), 121].length⟩ : FP)], x.n ≤ 10000000 := fun x hx => by rw [List.mem_singleton.1 hx]; show 2 + 1 ≤ 10000000; decide
  have hl4 : [(⟨⟨#[97]⟩, p, A4, [(120 : UInt8), 121].length + [(122 : UInt8)].length, c4, [120, 121] ++ [122], [(120 : UInt8), 121].length⟩ : FP)].length ≤ 100000 := by simp
  have hn4 : ((srtF [(⟨⟨#[97]⟩, p, A4, [(120 : UInt8), 121].length + [(122 : UInt8)].length, c4, [120, 121] ++ [122], [(120 : UInt8), 121].length⟩ : FP)]).map (·.name)).Nodup := by rw [srtF_one]; simp
  have e4 : crashL [] ((srtF [(⟨⟨#[97]⟩, p, A4, [(120 : UInt8), 121].length + [(122 : UInt8)].length, c4, [120, 121] ++ [122], [(120 : UInt8), 121].length⟩ : FP)]).map fdat) = [(⟨#[97]⟩, [120, 121], 2)] := by rw [srtF_one]; rfl
  have e5 : crashL [1] ((srtF [(⟨⟨#[97]⟩, p, A4, [(120 : UInt8), 121].length + [(122 : UInt8)].length, c4, [120, 121] ++ [122], [(120 : UInt8), 121].length⟩ : FP)]).map fdat) = [(⟨#[97]⟩, [120, 121, 122], 3)] := by rw [srtF_one]; rfl
  generalize [(⟨⟨#[97]⟩, p, A4, [(120 : UInt8), 121].length + [(122 : UInt8)].length, c4, [120, 121] ++ [122], [(120 : UInt8), 121].length⟩ : FP)] = F4 at *
  have E4 := hide e4
  have E5 := hide e5
  clear e4 e5 hxa
  go_upto_region 6 with (first
    | (go_at_call 24
       go_must (
       refine (crash_any (ks := []) w4 hd4 (Reads.none_ _ _ _ _) (by decide) hl4 hs4 hz4 hn4).mono ?_
       rintro e w5 ⟨g1, r1, fs1, rfl, hd5, hf5, hb5⟩
       rw [E4.out] at hf5
       obtain ⟨f1, rfl, n1, b1, s1⟩ := fdat_one hf5
       have hl5 : [f1].length ≤ 100000 := by simp
       have hs5 : ∀ x ∈ [f1], x.name.size ≤ maxLen := fun x hx => by rw [List.mem_singleton.1 hx, n1]; decide
       have hz5 : ∀ x ∈ [f1], x.n ≤ maxLen := fun x hx => by
         rw [List.mem_singleton.1 hx]
         have := (Reads.of_zown (hd5.2.2.2.2.1 f1 (by simp)).2.2.1).blen
         rw [← this, b1]
         decide))
    | (go_at_call 20
       go_must (
       refine (files_any w5 hd5 hl5 hs5 hz5).mono ?_
       rintro e w6 ⟨v6, rfl, hown6, hb6⟩
       rw [srtF_one] at hown6
       have hbw6 : Below w.heap.size w w6 := hbw4.trans ((hb5.trans (hb6.mono hb5.size)).mono hbw4.size)
       have hd6 := (hd4.below hb5).below hb6))
    | fail)
  clear hd4 hbw4 hd5 hf5 hb5 hl5 hs5 hz5
  have hl6 := hb6.size
  go_upto_region 7 with (first
    | (go_at_call 24
       go_must (
       have hb7 : Below w6.heap.size w6 (w6.alloc (.cells #[.int .i64 1] 3)) := (Below.refl _ w6).alloc (Nat.le_refl _) _
       refine (crash_any (ks := [1]) (w6.alloc (.cells #[.int .i64 1] 3)) (hd6.below hb7) ((Blk.new w6 3 #[.int .i64 1]).reads (k := 0) (m := 1) (by simp) (by decide)) (by decide) hl4 hs4 hz4 hn4).mono ?_
       rintro e w8 ⟨g2, r2, fs2, rfl, hd8, hf8, hb8⟩
       rw [E5.out] at hf8
       obtain ⟨f2, rfl, n2, b2, s2⟩ := fdat_one hf8
       have hl8 : [f2].length ≤ 100000 := by simp
       have hs8 : ∀ x ∈ [f2], x.name.size ≤ maxLen := fun x hx => by rw [List.mem_singleton.1 hx, n2]; decide
       have hz8 : ∀ x ∈ [f2], x.n ≤ maxLen := fun x hx => by
         rw [List.mem_singleton.1 hx]
         have := (Reads.of_zown (hd8.2.2.2.2.1 f2 (by simp)).2.2.1).blen
         rw [← this, b2]
         decide
       have hb68 : Below w6.heap.size w6 w8 := hb7.trans (hb8.mono hb7.size)))
    | (go_at_call 20
       go_must (
       refine (files_any w8 hd8 hl8 hs8 hz8).mono ?_
       rintro e w9 ⟨v9, rfl, hown9, hb9⟩
       rw [srtF_one] at hown9
       have hb69 : Below w6.heap.size w6 w9 := hb68.trans (hb9.mono hb68.size)
       have hown69 := own_below hown6 hb69
       have hd9 := hd6.below hb69
       have hbw9 := hbw6.trans (hb69.mono hbw6.size)))
    | fail)
  obtain ⟨G1, q1, rfl, k1, k2, k3⟩ := file_row hown69
  obtain ⟨G2, q2, rfl, k4, k5, k6⟩ := file_row hown9
  rw [n1] at k1
  rw [b1] at k2
  rw [s1] at k3
  rw [b2] at k5
  have hz := hide hbw9
  have hd := hide (dsteps_any w9 hd9)
  have heq := fun w => run_eql_file1 w
  clear hd6 hbw6 hd8 hf8 hb8 hl8 hs8 hz8 hb68 hown69 hown9 hown6 hb69 hb9 hb6 hd9 hbw9 k4 k6 hl4 hs4 hz4 hn4 E4 E5 n1 b1 s1 n2 b2 s2 hl6
  go_wp2_with (first
    | (go_at_call 16; go_in)
    | (go_at_call 21
       go_must (
       refine hd.out.mono ?_
       rintro e w10 ⟨rfl, rfl⟩))
    | (go_at_call 10
       go_must (
       refine (hxn.out w9 (by decide)).mono ?_
       rintro e w11 ⟨rfl, hb11⟩))
    | fail)
  go_ret
  exact ⟨ret_bool (by kernel_rfl), hz.out.trans (hb11.mono hz.out.size)⟩
end Go.Proofs.Ytaaaljpnhfmbpaa
