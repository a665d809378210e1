/- The walks of Cut, Read, Halt at any disk; Files, Crash, Steps in these words; a disk that is none (package disk). Conditions: those of each theorem. -/
import Derived.Test.YtaaaljpnhfmbpaaDkS
import Derived.Test.YtaaaljpnhfmbpaaDkRc
import Derived.Test.YtaaaljpnhfmbpaaDkM
namespace Go.Proofs.Ytaaaljpnhfmbpaa
open Go.RowKit
set_option linter.unusedVariables false

theorem ent_cut1 : Ent 45 := ent_of Try.func45 (by kernel_rfl) rfl
theorem ent_cut2 : Ent 46 := ent_of Try.func46 (by kernel_rfl) rfl
set_option maxHeartbeats 4000000 in
set_option maxRecDepth 20000 in
theorem cut_op {B g r : Nat} {d : DS} {name : ByteArray} {z : Int} (w : World) (h : DKd B w g r d) (hi : DIn B w d name) (hfl : ∀ x ∈ d.l, x.2.1.length ≤ 1048576) :
    Calls Try.prog 32 #[.pointer (some ⟨g, 0, none⟩), .string name, .int .i64 z] w fun e w' => e = .returned (.int .i64 (errP d name (.cut z))) ∧ DKd B w' g r (stepD d name (.cut z)) ∧ BK B w w' := by
  obtain ⟨l, st, en, lf⟩ := d
  obtain ⟨fs, hd, hp, hl⟩ := h
  obtain ⟨i1, i2, i3, i4, i5, i6⟩ := hi
  have d0 := Blk.new w 3 #[.int .i64 z]
  have hb0 : Below w.heap.size w (w.alloc (.cells #[.int .i64 z] 3)) := (Below.refl _ w).alloc (Nat.le_refl _) _
  go_enter Try.func32, Try.ntmps32
  go_upto_region 1 with (fail)
  generalize w.alloc (.cells #[.int .i64 z] 3) = w1 at *
  have hb1 : Below w1.heap.size w1 (w1.alloc (.cells #[.string name] 9)) := (Below.refl _ w1).alloc (Nat.le_refl _) _
  have hd1 := (hd.below hb0).below hb1
  have hz := Nat.le_trans i1 hb0.size
  have HLen : Hid (∀ f, FileOf fs name true f → f.b.length = f.n ∧ f.n ≤ 1048576) := fun f hfo => by
    rcases hfo with hfo | ⟨_, h0, _⟩
    · have := (hd.2.2.2.2.1 f (List.mem_of_find?_eq_some hfo)).len
      refine ⟨this, ?_⟩
      rw [← this]
      exact hfl (fdat f) (hp.mem_iff.1 (List.mem_map.2 ⟨f, List.mem_of_find?_eq_some hfo, rfl⟩))
    · cases h0
  have H := hide (done_any (rq := some (45, #[.pointer (some ⟨w.heap.size, 0, none⟩)])) (th := true) (dc := #[.pointer (some ⟨w.heap.size, 0, none⟩)]) (fun f => if z < 0 ∨ (f.n : Int) < z then 4 else 0) (fun W => Blk W w.heap.size 3 #[.int .i64 z]) (fun f w' => DKs B w' g r (doP l name (.cut z)) (st + 1) en (if en then lf - 1 else lf) ∧ BK B (w1.alloc (.cells #[.string name] 9)) w') (w1.alloc (.cells #[.string name] 9)) hd1 (Nat.le_trans hz hb1.size) (names := [name]) (name := name) (nn := 1) (bs := w1.heap.size)
    (Blk.new w1 9 (svs [name]).toArray) rfl (by decide) rfl (fun s hs => by rw [List.mem_singleton.1 hs]; exact i2) i3 i4 i5 i6 (d0.below hb1 d0.lt) (fun a b h hb => h.below hb h.lt) (fun a i u st' lf' h hd => h.far (p := ⟨g, i, none⟩) (h.ne_ hd.1 (by decide)) u)
    ⟨ent_cut1, fun W f hI hf hfo => cut1_any W hf.1 hI⟩ ent_cut2 (fun W f hI h1 hf hfo hr0 hB1 hb => by
      obtain ⟨g1, g2, g3⟩ := hfo.get hp hl
      obtain ⟨hn1, hn2⟩ := HLen.out f hfo
      have hfit : 0 ≤ z ∧ z ≤ (f.n : Int) := by
        by_cases hx : z < 0 ∨ (f.n : Int) < z
        · rw [if_pos hx] at hr0; cases hr0
        · omega
      obtain ⟨k, rfl⟩ : ∃ k : Nat, z = k := ⟨z.toNat, by omega⟩
      have hcap : f.n ≤ f.c := by
        obtain ⟨A', cap, e, h1, h2⟩ := zown_slice hf.2.2.1
        injection e with e1 e2 e3
        omega
      have hs := hf.2.2.2
      refine (cut2_any (z := k) W hf.1 hI (by omega) (by omega) (by omega)).mono ?_
      rintro e w6 ⟨rfl, hp6, hb6, hz6, hk6⟩
      have hmem : f ∈ fs := by
        rcases hfo with hfo | ⟨_, h0, _⟩
        · exact List.mem_of_find?_eq_some hfo
        · cases h0
      have hown6 : OwnZ w6 B 5 (.slice f.A k f.c) k (bvs (f.b.take k)) := by
        rw [← bvs_take]
        exact zown_kept (zown_take hf.2.2.1 (by omega)) (fun q hq => hk6 q (fun e => by
          subst e
          refine zown_not hf.2.2.1 hf.1 (by decide) ?_
          rw [← hq]
          cases f.A <;> rfl))
      have hrow : FRow B w6 ⟨name, f.p, f.A, k, f.c, f.b.take k, min f.sy k⟩ := ⟨hp6, hf.2.1, hown6, Nat.min_le_right _ _⟩
      have hx : (name, (getL l name).2.1.take ((k : Int)).toNat, min (getL l name).2.2 ((k : Int)).toNat) = fdat ⟨name, f.p, f.A, k, f.c, f.b.take k, min f.sy k⟩ := by
        rw [← g1]
        rfl
      refine ⟨rfl, ?_, ⟨hb.1.trans (hb6.mono hf.2.1), fun q t cs hq e1 e2 e3 => by have h0 := hb.2 q t cs hq e1 e2 e3; exact (hk6 q (h0.ne_ hf.1 e2)).trans h0⟩⟩
      have hdo : doP l name (.cut k) = withL l (fdat ⟨name, f.p, f.A, k, f.c, f.b.take k, min f.sy k⟩) := by
        rw [← hx]
        rfl
      rw [hdo]
      exact ⟨_, h1.appended (f' := ⟨name, f.p, f.A, k, f.c, f.b.take k, min f.sy k⟩) hmem rfl g3.symm hrow (h1.2.2.2.1.keep (hk6 r (fun e => h1.2.2.2.1.ne hf.1 e.symm))) (fun q hq => .inl (by rw [← hq]; cases f.A <;> rfl)) ⟨by rw [hz6]; exact Nat.le_refl _, fun q hq hqp _ _ => hk6 q hqp⟩, with_of hp hl (upd_perm (f' := ⟨name, f.p, f.A, k, f.c, f.b.take k, min f.sy k⟩) (fnames hp hl) h1.2.2.2.2.2 hmem rfl g3.symm)⟩))
  have HL2 : Hid (∀ f, FileOf fs name true f → (fdat f).2.1.length = f.n) := fun f hfo => (HLen.out f hfo).1
  clear hd hd1 d0
  go_wp2_with (first
    | (go_at_call 38
       go_must (
       refine H.out.mono ?_
       rintro e w2 ⟨E, rfl, hR⟩))
    | fail)
  go_ret
  obtain ⟨o1, o2, o3⟩ := done_out (.cut z) hp hl rfl rfl (fun f hfo => by unfold ownP; simp only; rw [HL2.out f hfo]) (fun _ _ h => h) hR
  subst o1
  exact ⟨rfl, o2, (BK.of hb0 i1).trans ((BK.of hb1 hz).trans o3)⟩

theorem srt_dat {fs : List FP} {l : FL} (hp : (fs.map fdat).Perm l) (hl : Rise l) : (srtF fs).map fdat = l := by
  have h1 : namesF fs = l.map fun x => x.1.data.toList := by
    unfold namesF
    have hk : keysB (fs.map fkv) = (fs.map fdat).map fun x => x.1.data.toList := by
      unfold keysB
      rw [List.map_map, List.map_map]
      rfl
    rw [hk, Go.mergeSort_of_perm (hp.map fun x => x.1.data.toList)]
    refine List.mergeSort_of_pairwise ?_
    rw [List.pairwise_map]
    exact List.Pairwise.imp (fun h => leB_of h) hl
  unfold srtF
  rw [h1, List.map_filterMap, List.filterMap_map]
  have h2 : ∀ m : FL, (∀ x ∈ m, x ∈ l) → m.filterMap ((fun x => Option.map fdat (fs.find? fun f => decide (f.name = ⟨x.toArray⟩))) ∘ fun x : FD => x.1.data.toList) = m := by
    intro m
    induction m with
    | nil => intro _; rfl
    | cons y m ih =>
      intro hm
      have hy : ((fun x => Option.map fdat (fs.find? fun f => decide (f.name = ⟨x.toArray⟩))) ∘ fun x : FD => x.1.data.toList) y = some y := by
        show Option.map fdat (fs.find? fun f => decide (f.name = ⟨(y.1.data.toList).toArray⟩)) = some y
        rw [find_fs, find_perm (fnames hp hl) hp]
        refine find_of hl.names (hm y (by simp)) ?_
        simp
      rw [List.filterMap_cons_some hy, ih (fun x hx => hm x (by simp [hx]))]
  exact h2 l (fun _ h => h)
/-- files as cells -/
def dvs (l : FL) : List Value := l.flatMap fun x => [.string x.1, .string ⟨x.2.1.toArray⟩, .int .i64 x.2.2]
theorem dvs_fvs (fs : List FP) : fvs fs = dvs (fs.map fdat) := by
  unfold fvs dvs
  rw [List.flatMap_map]
  rfl
theorem dvs_len (l : FL) : (dvs l).length = l.length * 3 := by
  unfold dvs
  induction l with
  | nil => rfl
  | cons f l ih => rw [List.flatMap_cons, List.length_append, ih, List.length_cons]; simp; omega
/-- files within bounds -/
structure Fit (l : FL) : Prop where
  num : l.length ≤ 100000
  name : ∀ x ∈ l, x.1.size ≤ maxLen
  size : ∀ x ∈ l, x.2.1.length ≤ 1048576
theorem files_s {B g r : Nat} {d : DS} (w : World) (h : DKd B w g r d) (hf : Fit d.l) :
    Calls Try.prog 20 #[.pointer (some ⟨g, 0, none⟩)] w fun e w' => ∃ v, e = .returned v ∧ w'.ownsRow w.heap.size 27 3 v d.l.length (dvs d.l) ∧ Below w.heap.size w w' := by
  obtain ⟨l, st, en, lf⟩ := d
  obtain ⟨fs, hd, hp, hl⟩ := h
  have hlen : fs.length = l.length := by have := hp.length_eq; rw [List.length_map] at this; exact this
  have hin : ∀ x ∈ fs, fdat x ∈ l := fun x hx => hp.mem_iff.1 (List.mem_map.2 ⟨x, hx, rfl⟩)
  refine (files_any w hd (by rw [hlen]; exact hf.num) (fun x hx => hf.name _ (hin x hx)) (fun x hx => ?_)).mono ?_
  · have := hf.size _ (hin x hx)
    rw [← (hd.2.2.2.2.1 x hx).len]
    unfold maxLen
    exact Nat.le_trans this (by decide)
  · rintro e w' ⟨v, rfl, h1, h2⟩
    rw [dvs_fvs, srt_dat hp hl, hlen] at h1
    exact ⟨v, rfl, h1, h2⟩
theorem rise_crash {l : FL} (ks : List Int) (h : Rise l) : Rise (crashL ks l) := by
  unfold Rise crashL at *
  have h1 : ((l.mapIdx (crash1 ks)).map (·.1)) = l.map (·.1) := by
    apply List.ext_getElem?
    intro i
    rw [List.getElem?_map, List.getElem?_mapIdx, List.getElem?_map]
    cases l[i]? <;> rfl
  have h2 : (l.map (·.1)).Pairwise NLt := by rw [List.pairwise_map]; exact h
  rw [← h1, List.pairwise_map] at h2
  exact h2
theorem crash_s {B g r m mc : Nat} {M : Option Addr} {ks : List Int} {d : DS} (w : World) (h : DKd B w g r d) (hf : Fit d.l) (hM : Reads w w.heap.size 1 M m (ivs ks)) (hm : m ≤ 1000000) :
    Calls Try.prog 24 #[.pointer (some ⟨g, 0, none⟩), .slice M m mc] w fun e w' => ∃ g' r', e = .returned (.pointer (some ⟨g', 0, none⟩)) ∧ DKd w.heap.size w' g' r' ⟨crashL ks d.l, 0, false, 0⟩ ∧ Below w.heap.size w w' := by
  obtain ⟨l, st, en, lf⟩ := d
  obtain ⟨fs, hd, hp, hl⟩ := h
  have hlen : fs.length = l.length := by have := hp.length_eq; rw [List.length_map] at this; exact this
  have hin : ∀ x ∈ fs, fdat x ∈ l := fun x hx => hp.mem_iff.1 (List.mem_map.2 ⟨x, hx, rfl⟩)
  have hs := srt_dat hp hl
  refine (crash_any w hd hM hm (by rw [hlen]; exact hf.num) (fun x hx => hf.name _ (hin x hx)) (fun x hx => ?_) ?_).mono ?_
  · have := hf.size _ (hin x hx)
    rw [← (hd.2.2.2.2.1 x hx).len]
    exact Nat.le_trans this (by decide)
  · have h1 : (srtF fs).map (·.name) = l.map (·.1) := by
      rw [← (show (srtF fs).map fdat = l from hs), List.map_map]
      rfl
    rw [h1]
    exact hl.names
  · rintro e w' ⟨g', r', fs', rfl, h1, h2, h3⟩
    rw [hs] at h2
    exact ⟨g', r', rfl, ⟨fs', h1, by rw [h2], rise_crash ks hl⟩, h3⟩
theorem steps_s {B g r : Nat} {d : DS} (w : World) (h : DKd B w g r d) : Calls Try.prog 21 #[.pointer (some ⟨g, 0, none⟩)] w fun e w' => e = .returned (.int .i64 d.st) ∧ w = w' := by
  obtain ⟨fs, hd, hp, hl⟩ := h
  exact dsteps_any w hd
theorem new_s (w : World) : Calls Try.prog 31 #[] w fun e w' => ∃ g r, e = .returned (.pointer (some ⟨g, 0, none⟩)) ∧ DKd w.heap.size w' g r ⟨[], 0, false, 0⟩ ∧ Below w.heap.size w w' :=
  (dnew_any w).mono fun e w' ⟨g, r, he, hd, hb⟩ => ⟨g, r, he, ⟨[], hd, .nil, .nil⟩, hb⟩

/-- what reading a file answers -/
def readE (l : FL) (name : ByteArray) : Int := if !nameDS name then 2 else if (findL l name).isNone then 5 else 0
def readB (l : FL) (name : ByteArray) : List UInt8 := if readE l name = 0 then (getL l name).2.1 else []
set_option maxHeartbeats 4000000 in
set_option maxRecDepth 20000 in
theorem read_op {B g r : Nat} {d : DS} {name : ByteArray} (w : World) (h : DKd B w g r d) (hs : name.size ≤ 140737488351232) (hfl : ∀ x ∈ d.l, x.2.1.length ≤ 1048576) :
    Calls Try.prog 18 #[.pointer (some ⟨g, 0, none⟩), .string name] w fun e w' => ∃ v, e = .returned (.tuple #[v, .int .i64 (readE d.l name)]) ∧ w'.ownsRow w.heap.size 5 1 v (readB d.l name).length (bvs (readB d.l name)) ∧ Below w.heap.size w w' := by
  obtain ⟨l, st, en, lf⟩ := d
  obtain ⟨fs, hd, hp, hl⟩ := h
  have hpe := fun w => run_eql_disk w ⟨g, 0, none⟩
  have hme := fun w => run_eql_files w r
  have c0 : w.cell? ⟨g, 0, none⟩ = some (.map (some r)) := hd.1.cell 0
  have HN := hide (name_any name w hs)
  cases hx : nameDS name with
  | false =>
    rw [hx] at HN
    have hE : Hid (readE l name = 2 ∧ readB l name = []) := by
      have : readE l name = 2 := by unfold readE; rw [hx]; rfl
      exact ⟨this, by unfold readB; rw [if_neg (by rw [this]; decide)]⟩
    clear hd hp hl
    go_enter Try.func18, Try.ntmps18
    go_wp2_with (first
      | (go_at_call 10; go_must (refine HN.out.mono ?_; rintro e w1 ⟨rfl, hb1⟩))
      | fail)
    go_ret2
    refine ⟨.slice none 0 0, by rw [hE.out.1]; rfl, ?_, hb1⟩
    rw [hE.out.2]
    exact World.ownsRow_nil _ _ _ _
  | true =>
    rw [hx] at HN
    have HX := hide hx
    have hf := find_fs fs name
    rw [find_perm (fnames hp hl) hp] at hf
    cases hfi : fs.find? (fun f => decide (f.name = name)) with
    | none =>
      rw [hfi] at hf
      have hE : Hid (readE l name = 5 ∧ readB l name = []) := by
        have : readE l name = 5 := by unfold readE; rw [HX.out, ← hf]; rfl
        exact ⟨this, by unfold readB; rw [if_neg (by rw [this]; decide)]⟩
      have HF := hide hfi
      clear hp hl hx hf hfi
      go_enter Try.func18, Try.ntmps18
      go_upto_region 5 with (first
        | (go_at_call 10; go_must (refine HN.out.mono ?_; rintro e w1 ⟨rfl, hb1⟩))
        | fail)
      have h1 := hd.below hb1
      have c1 : w1.cell? ⟨g, 0, none⟩ = some (.map (some r)) := h1.1.cell 0
      have hlk := look_file h1.2.2.2.1 name
      rw [fkv_find, HF.out] at hlk
      dsimp only [Option.map_none, Option.getD_none, Option.isSome_none] at hlk
      clear hd c0
      go_wp2_with (fail)
      go_ret2
      refine ⟨.slice none 0 0, by rw [hE.out.1]; rfl, ?_, hb1⟩
      rw [hE.out.2]
      exact World.ownsRow_nil _ _ _ _
    | some f =>
      rw [hfi] at hf
      have hE : Hid (readE l name = 0 ∧ readB l name = f.b) := by
        have : readE l name = 0 := by unfold readE; rw [HX.out, ← hf]; rfl
        refine ⟨this, ?_⟩
        unfold readB
        rw [if_pos this]
        unfold getL
        rw [← hf]
        rfl
      have HF := hide hfi
      have hmem := List.mem_of_find?_eq_some hfi
      have hfn : f.n ≤ 1048576 := by
        rw [← (hd.2.2.2.2.1 f hmem).len]
        exact hfl (fdat f) (hp.mem_iff.1 (List.mem_map.2 ⟨f, hmem, rfl⟩))
      clear hp hl hx hf hfi hfl
      go_enter Try.func18, Try.ntmps18
      go_upto_region 5 with (first
        | (go_at_call 10; go_must (refine HN.out.mono ?_; rintro e w1 ⟨rfl, hb1⟩))
        | fail)
      have h1 := hd.below hb1
      have c1 : w1.cell? ⟨g, 0, none⟩ = some (.map (some r)) := h1.1.cell 0
      have hff := h1.2.2.2.2.1 f hmem
      have k1 : w1.cell? ⟨f.p, 0, none⟩ = some (.slice f.A f.n f.c) := hff.1.cell 0
      have hlk := look_file h1.2.2.2.1 name
      rw [fkv_find, HF.out] at hlk
      dsimp only [Option.map_some, Option.getD_some, Option.isSome_some] at hlk
      have HC := hide (bclone_any f.A f.n f.c f.b w1 (Reads.of_zown hff.2.2.1) (by omega))
      have HLn := hide hff.len
      clear hd c0 h1 hff
      go_wp2_with (first
        | (go_at_call 36; go_must (refine HC.out.mono ?_; rintro e w2 ⟨v, rfl, hown, hb2⟩))
        | fail)
      go_ret2
      refine ⟨v, by rw [hE.out.1]; rfl, ?_, hb1.trans (hb2.mono hb1.size)⟩
      rw [hE.out.2, HLn.out]
      exact own_base hown hb1.size

theorem run_neq_disk (w : World) (p : Addr) : (binOp .neq 28 (.pointer (some p)) (.pointer none)).run Try.prog w = .ok (.bool true) w := by kernel_rfl
theorem DK.ends {B : Nat} {w : World} {g r : Nat} {fs : List FP} {st lf lf' : Int} {en : Bool} (h : DK B w g r fs st en lf) : DK B ((w.setCell ⟨g, 2, none⟩ (.bool true)).setCell ⟨g, 3, none⟩ (.int .i64 lf')) g r fs st true lf' := by
  obtain ⟨h1, h2, h3, h4, h5, h6⟩ := h
  have hne : r ≠ g := fun e => h4.ne h1 e.symm
  refine ⟨(h1.set_ 2 (.bool true)).set_ 3 _, h2, h3, (h4.setCell (p := ⟨g, 2, none⟩) hne _).setCell (p := ⟨g, 3, none⟩) hne _, fun f hf => ?_, h6⟩
  obtain ⟨a1, a2, a3, a4⟩ := h5 f hf
  refine ⟨(a1.far (p := ⟨g, 2, none⟩) (a1.ne_ h1 (by decide)) _).far (p := ⟨g, 3, none⟩) (a1.ne_ h1 (by decide)) _, a2, zown_far (zown_far a3 (p := ⟨g, 2, none⟩) (zown_not a3 h1 (by decide)) _) (p := ⟨g, 3, none⟩) (zown_not a3 h1 (by decide)) _, a4⟩
set_option maxHeartbeats 1000000 in
theorem halt_op {B g r : Nat} {d : DS} {n : Int} (w : World) (h : DKd B w g r d) :
    Calls Try.prog 29 #[.pointer (some ⟨g, 0, none⟩), .int .i64 n] w fun e w' => e = .returned (.tuple #[]) ∧ DKd B w' g r ⟨d.l, d.st, true, max n 0⟩ ∧ BK B w w' := by
  obtain ⟨l, st, en, lf⟩ := d
  obtain ⟨fs, hd, hp, hl⟩ := h
  have hne := fun w => run_neq_disk w ⟨g, 0, none⟩
  have c2 : w.cell? ⟨g, 2, none⟩ = some (.bool en) := hd.1.cell 2
  have c3 : (w.setCell ⟨g, 2, none⟩ (.bool true)).cell? ⟨g, 3, none⟩ = some (.int .i64 lf) := (hd.1.set_ 2 (.bool true)).cell 3
  have f2 := hd.1.frozen 2
  have f3 := hd.1.frozen 3
  have f3' := (hd.1.set_ 2 (.bool true)).frozen 3
  have HD := hide hd
  clear hd
  go_enter Try.func29, Try.ntmps29
  go_wp2_with fail
  go_end0
  exact ⟨rfl, ⟨fs, HD.out.ends, hp, hl⟩, ((BK.refl B w).setBlk HD.out.1 HD.out.2.1 _).setBlk (HD.out.1.set_ 2 _) HD.out.2.1 _⟩
end Go.Proofs.Ytaaaljpnhfmbpaa
