/- A disk behind a step, as plain lists; what done answers in these words; the walks of Append, Sync, Rename, Remove at any disk (package disk). Conditions: those of each theorem. -/
import Derived.Test.YtaaaljpnhfmbpaaDkR
namespace Go.Proofs.Ytaaaljpnhfmbpaa
open Go.RowKit
set_option linter.unusedVariables false

inductive Cmd
  | app (bs : List UInt8)
  | cut (z : Int)
  | sync
  | ren (tn : ByteArray)
  | rem
def Cmd.th : Cmd → Bool
  | .app _ => false
  | _ => true
def Cmd.names (name : ByteArray) : Cmd → List ByteArray
  | .ren tn => [name, tn]
  | _ => [name]
def getL (l : FL) (name : ByteArray) : FD := (findL l name).getD (name, [], 0)
/-- how a step refuses a file -/
def ownP (c : Cmd) (x : FD) : Int := match c with
  | .app bs => if 1048576 < x.2.1.length + bs.length then 3 else 0
  | .cut z => if z < 0 ∨ (x.2.1.length : Int) < z then 4 else 0
  | _ => 0
def refP (l : FL) (name : ByteArray) (c : Cmd) : Int := if badL (c.names name) then 2 else if c.th && (findL l name).isNone then 5 else ownP c (getL l name)
def doP (l : FL) (name : ByteArray) (c : Cmd) : FL :=
  let f := getL l name
  match c with
  | .app bs => withL l (name, f.2.1 ++ bs, f.2.2)
  | .cut z => withL l (name, f.2.1.take z.toNat, min f.2.2 z.toNat)
  | .sync => withL l (name, f.2.1, f.2.1.length)
  | .ren tn => withL (dropL l name) (tn, f.2.1, f.2.2)
  | .rem => dropL l name
/-- a disk: its files, how many steps were done, is it to be halted, behind how many -/
structure DS where
  l : FL
  st : Int
  en : Bool
  lf : Int
def errP (d : DS) (name : ByteArray) (c : Cmd) : Int := if refP d.l name c ≠ 0 then refP d.l name c else if d.en && decide (d.lf = 0) then 7 else 0
def stepD (d : DS) (name : ByteArray) (c : Cmd) : DS := if errP d name c = 0 then ⟨doP d.l name c, d.st + 1, d.en, if d.en then d.lf - 1 else d.lf⟩ else d
def DKd (B : Nat) (w : World) (g r : Nat) (d : DS) : Prop := DKs B w g r d.l d.st d.en d.lf

theorem FileOf.get {fs : List FP} {l : FL} {name : ByteArray} {th : Bool} {f : FP} (hp : (fs.map fdat).Perm l) (hl : Rise l) (h : FileOf fs name th f) : fdat f = getL l name ∧ (th && (findL l name).isNone) = false ∧ f.name = name := by
  have hf := find_fs fs name
  rw [find_perm (fnames hp hl) hp] at hf
  rcases h with h | ⟨h, rfl, h1, h2, h3, h4, h5, h6, _⟩
  · rw [h] at hf
    unfold getL
    rw [← hf]
    have := List.find?_some h
    exact ⟨rfl, by simp, by simpa using this⟩
  · rw [h] at hf
    unfold getL
    rw [← hf]
    refine ⟨?_, rfl, h1⟩
    unfold fdat
    rw [h1, h5, h6]
    rfl
theorem done_out {B : Nat} {w w' : World} {g r : Nat} {fs : List FP} {l : FL} {st lf E : Int} {en th : Bool} {names : List ByteArray} {name : ByteArray} {refE : FP → Int} {Q : FP → World → Prop} (c : Cmd) (hp : (fs.map fdat).Perm l) (hl : Rise l) (hth : th = c.th) (hnm : names = c.names name)
    (hre : ∀ f, FileOf fs name th f → refE f = ownP c (fdat f)) (hQ : ∀ f w', Q f w' → DKs B w' g r (doP l name c) (st + 1) en (if en then lf - 1 else lf) ∧ BK B w w')
    (h : DoneR B w g r fs st lf en names name th refE Q E w') : E = errP ⟨l, st, en, lf⟩ name c ∧ DKd B w' g r (stepD ⟨l, st, en, lf⟩ name c) ∧ BK B w w' := by
  subst hth hnm
  have hback : ∀ {E0 : Int}, errP ⟨l, st, en, lf⟩ name c = E0 → E0 ≠ 0 → DK B w' g r fs st en lf → DKd B w' g r (stepD ⟨l, st, en, lf⟩ name c) := fun h1 h2 h3 => by
    unfold stepD
    rw [if_neg (by rw [h1]; exact h2)]
    exact h3.toS hp hl
  have hfn : fs.find? (fun f => decide (f.name = name)) = none → findL l name = none := fun hn => by
    have := find_fs fs name
    rw [hn, find_perm (fnames hp hl) hp] at this
    exact this.symm
  rcases h with ⟨⟨h1, rfl⟩, h2, h3⟩ | ⟨⟨h0, h1, h1', rfl⟩, h2, h3⟩ | ⟨⟨h0, f, h1, h1', rfl⟩, h2, h3⟩ | ⟨⟨h0, f, h1, h1', rfl, rfl, rfl⟩, h2, h3⟩ | ⟨h0, f, h1, h1', h4, rfl, hq⟩
  · have e : errP ⟨l, st, en, lf⟩ name c = 2 := by unfold errP refP; simp [h1]
    exact ⟨e.symm, hback e (by decide) h2, h3⟩
  · have e : errP ⟨l, st, en, lf⟩ name c = 5 := by unfold errP refP; simp [h0, h1', hfn h1]
    exact ⟨e.symm, hback e (by decide) h2, h3⟩
  · obtain ⟨g1, g2, g3⟩ := h1.get hp hl
    rw [hre f h1, g1] at h1' ⊢
    have e : errP ⟨l, st, en, lf⟩ name c = ownP c (getL l name) := by
      unfold errP refP
      simp [h0, g2, h1']
    exact ⟨e.symm, hback e h1' h2, h3⟩
  · obtain ⟨g1, g2, g3⟩ := h1.get hp hl
    rw [hre f h1, g1] at h1'
    have e : errP ⟨l, st, true, 0⟩ name c = 7 := by
      unfold errP refP
      simp [h0, g2, h1']
    exact ⟨e.symm, hback e (by decide) h2, h3⟩
  · obtain ⟨g1, g2, g3⟩ := h1.get hp hl
    rw [hre f h1, g1] at h1'
    have e : errP ⟨l, st, en, lf⟩ name c = 0 := by
      unfold errP refP
      simp only [h0, g2, h1']
      cases en with
      | false => simp
      | true => simp [h4 rfl]
    obtain ⟨q1, q2⟩ := hQ f w' hq
    refine ⟨e.symm, ?_, q2⟩
    unfold stepD
    rw [if_pos e]
    exact q1

theorem DK.del {B : Nat} {w : World} {g r : Nat} {fs : List FP} {st lf : Int} {en : Bool} {k : ByteArray} {o : Obj} (h : DK B w g r fs st en lf) (hm : Ms (w.putObj r o) r (delS (fs.map fkv) k)) : DK B (w.putObj r o) g r (delF fs k) st en lf := by
  obtain ⟨h1, h2, h3, h4, h5, h6⟩ := h
  rw [del_fkv] at hm
  exact ⟨h1.putObj h4 o, h2, h3, hm, fun f hf => (h5 f ((del_sub fs k).subset hf)).putObj h4 o, h6.sublist (del_sub fs k)⟩
theorem del_not {fs : List FP} {k : ByteArray} {f : FP} (hf : fs.find? (fun f => decide (f.name = k)) = some f) (ha : fs.Pairwise FApart) : ∀ x ∈ delF fs k, FApart f x := by
  induction fs with
  | nil => cases hf
  | cons y fs ih =>
    rw [List.pairwise_cons] at ha
    unfold delF
    by_cases hy : y.name = k
    · rw [List.find?_cons_of_pos (by simpa using hy)] at hf
      injection hf with hf
      subst hf
      rw [if_pos hy]
      exact ha.1
    · rw [List.find?_cons_of_neg (by simpa using hy)] at hf
      rw [if_neg hy]
      intro x hx
      rcases List.mem_cons.1 hx with rfl | hx
      · exact (ha.1 f (List.mem_of_find?_eq_some hf)).symm
      · exact ih hf ha.2 x hx
theorem DK.ren {B : Nat} {w : World} {g r : Nat} {fs : List FP} {st lf : Int} {en : Bool} {k tn : ByteArray} {o o' : Obj} {f : FP} (h : DK B w g r fs st en lf) (hf : fs.find? (fun f => decide (f.name = k)) = some f)
    (hm : Ms ((w.putObj r o).putObj r o') r (putS (delS (fs.map fkv) k) tn (.pointer (some ⟨f.p, 0, none⟩)))) : DK B ((w.putObj r o).putObj r o') g r (putF (delF fs k) ⟨tn, f.p, f.A, f.n, f.c, f.b, f.sy⟩) st en lf := by
  obtain ⟨h1, h2, h3, h4, h5, h6⟩ := h
  have hff := h5 f (List.mem_of_find?_eq_some hf)
  have hpp : ∀ (w : World), (w.putObj r o).putObj r o' = w.putObj r o' := fun w => by simp [World.putObj]
  rw [hpp] at hm ⊢
  have e := put_fkv (delF fs k) ⟨tn, f.p, f.A, f.n, f.c, f.b, f.sy⟩
  simp only at e
  rw [del_fkv, e] at hm
  have hff' : FRow B w ⟨tn, f.p, f.A, f.n, f.c, f.b, f.sy⟩ := hff
  refine ⟨h1.putObj h4 o', h2, h3, hm, fun x hx => ?_, put_pair (fun a b h => h.symm) (h6.sublist (del_sub fs k)) (fun y hy => del_not hf h6 y hy)⟩
  rcases put_mem hx with rfl | hx
  · exact hff'.putObj h4 o'
  · exact (h5 x ((del_sub fs k).subset hx)).putObj h4 o'

theorem ent_sync : Ent 39 := ent_of Try.func39 (by kernel_rfl) rfl
theorem ent_rem : Ent 48 := ent_of Try.func48 (by kernel_rfl) rfl
theorem ent_ren : Ent 47 := ent_of Try.func47 (by kernel_rfl) rfl
theorem ent_app1 : Ent 40 := ent_of Try.func40 (by kernel_rfl) rfl
theorem ent_app2 : Ent 41 := ent_of Try.func41 (by kernel_rfl) rfl

theorem Reads.notDiskI {w : World} {g r m i : Nat} {st lf : Int} {en : Bool} {B : Nat} {M : Option Addr} {l : List UInt8} (h : Reads w B 1 M m (bvs l)) (hg : Blk w g 70 (kcells r st en lf)) (u : Value) : Reads (w.setCell ⟨g, i, none⟩ u) B 1 M m (bvs l) := by
  refine ⟨h.1, fun h0 => ?_⟩
  obtain ⟨b, o, e, hb, hc⟩ := h.2 h0
  refine ⟨b, o, e, hb, fun j v hv => ?_⟩
  have h1 := hc j v hv
  by_cases hbg : b = g
  · exfalso
    subst hbg
    rw [hg.cell] at h1
    obtain ⟨y, hy⟩ : ∃ y : UInt8, v = .int .u8 (y.toNat : Int) := by
      rw [bvs_at] at hv
      cases hx : l[j]? with
      | none => rw [hx] at hv; cases hv
      | some y => rw [hx] at hv; injection hv with hv; exact ⟨y, hv.symm⟩
    subst hy
    match ho : o + j, h1 with
    | 0, h1 => simp at h1
    | 1, h1 => simp at h1
    | 2, h1 => simp at h1
    | 3, h1 => simp at h1
    | q + 4, h1 => simp at h1
  · rw [World.cell?_setCell_other _ ⟨g, i, none⟩ ⟨b, o + j, none⟩ _ (fun e => by injection e with e; exact hbg e.symm)]
    exact h1
theorem AppIn.farI {w : World} {g r bs bd bn bb m cm i : Nat} {M : Option Addr} {name : ByteArray} {l : List UInt8} {st lf : Int} {en : Bool} (h : AppIn w g bs bd bn bb m cm M name l) (hg : Blk w g 70 (kcells r st en lf)) (u : Value) : AppIn (w.setCell ⟨g, i, none⟩ u) g bs bd bn bb m cm M name l :=
  ⟨h.names.far (p := ⟨g, i, none⟩) (h.names.ne_ hg (by decide)) u, h.disk.far (p := ⟨g, i, none⟩) (h.disk.ne_ hg (by decide)) u, h.name.far (p := ⟨g, i, none⟩) (h.name.ne_ hg (by decide)) u, h.bytes.far (p := ⟨g, i, none⟩) (h.bytes.ne_ hg (by decide)) u, by
    have := h.reads.notDiskI (i := i) hg u
    rw [show (w.setCell ⟨g, i, none⟩ u).heap.size = w.heap.size from by simp]
    exact this⟩
/-- what each walk below asks of a disk -/
structure DIn (B : Nat) (w : World) (d : DS) (name : ByteArray) : Prop where
  base : B ≤ w.heap.size
  size : name.size ≤ 140737488351232
  st0 : 0 ≤ d.st
  st1 : d.st ≤ 1000000000
  lf0 : 0 ≤ d.lf
  lf1 : d.lf ≤ 9223372036854775807

theorem with_of {fs : List FP} {fs' : List FP} {l : FL} {x : FD} (hp : (fs.map fdat).Perm l) (hl : Rise l) (h : (fs'.map fdat).Perm (x :: dropL (fs.map fdat) x.1)) : (fs'.map fdat).Perm (withL l x) ∧ Rise (withL l x) :=
  ⟨h.trans (((drop_perm hp x.1).cons _).trans (with_perm l x).symm), hl.with x⟩

set_option maxHeartbeats 2000000 in
theorem sync_op {B g r : Nat} {d : DS} {name : ByteArray} (w : World) (h : DKd B w g r d) (hi : DIn B w d name) :
    Calls Try.prog 22 #[.pointer (some ⟨g, 0, none⟩), .string name] w fun e w' => e = .returned (.int .i64 (errP d name .sync)) ∧ DKd B w' g r (stepD d name .sync) ∧ BK B w w' := by
  obtain ⟨l, st, en, lf⟩ := d
  obtain ⟨fs, hd, hp, hl⟩ := h
  obtain ⟨i1, i2, i3, i4, i5, i6⟩ := hi
  have hb1 : Below w.heap.size w (w.alloc (.cells #[.string name] 9)) := (Below.refl _ w).alloc (Nat.le_refl _) _
  have hd1 := hd.below hb1
  have H := hide (done_any (rq := none) (th := true) (dc := #[]) (fun _ => 0) (fun _ => True) (fun f w' => DKs B w' g r (doP l name .sync) (st + 1) en (if en then lf - 1 else lf) ∧ BK B (w.alloc (.cells #[.string name] 9)) w') (w.alloc (.cells #[.string name] 9)) hd1 (Nat.le_trans i1 hb1.size) (names := [name]) (name := name) (nn := 1) (bs := w.heap.size)
    (Blk.new w 9 (svs [name]).toArray) rfl (by decide) rfl (fun s hs => by rw [List.mem_singleton.1 hs]; exact i2) i3 i4 i5 i6 trivial (fun _ _ _ _ => trivial) (fun _ _ _ _ _ _ _ => trivial) (fun _ => rfl) ent_sync (fun w1 f _ h1 hf hfo hr0 hB1 hb => by
      obtain ⟨g1, g2, g3⟩ := hfo.get hp hl
      rcases hfo with hfo | ⟨_, h0, _⟩
      · have hmem := List.mem_of_find?_eq_some hfo
        refine (sync1_any w1 hf.1).mono ?_
        rintro e w2 ⟨rfl, rfl⟩
        refine ⟨rfl, ⟨_, h1.synced hmem, ?_⟩, hb.setFile hf _⟩
        have hx : (name, (getL l name).2.1, (getL l name).2.1.length) = fdat ⟨f.name, f.p, f.A, f.n, f.c, f.b, f.n⟩ := by
          rw [← g1]
          unfold fdat
          simp only
          rw [g3, hf.len]
        show _ ∧ Rise (withL l _)
        unfold doP
        simp only
        rw [hx]
        exact with_of hp hl (upd_perm (fnames hp hl) h1.2.2.2.2.2 hmem rfl rfl)
      · cases h0))
  clear hd hd1
  go_enter Try.func22, Try.ntmps22
  go_wp2_with (first
    | (go_at_call 38
       go_must (
       refine H.out.mono ?_
       rintro e w2 ⟨E, rfl, hR⟩))
    | fail)
  go_ret
  obtain ⟨o1, o2, o3⟩ := done_out .sync hp hl rfl rfl (fun _ _ => rfl) (fun _ _ h => h) hR
  subst o1
  exact ⟨rfl, o2, (BK.of hb1 i1).trans o3⟩

set_option maxHeartbeats 2000000 in
theorem remove_op {B g r : Nat} {d : DS} {name : ByteArray} (w : World) (h : DKd B w g r d) (hi : DIn B w d name) :
    Calls Try.prog 34 #[.pointer (some ⟨g, 0, none⟩), .string name] w fun e w' => e = .returned (.int .i64 (errP d name .rem)) ∧ DKd B w' g r (stepD d name .rem) ∧ BK B w w' := by
  obtain ⟨l, st, en, lf⟩ := d
  obtain ⟨fs, hd, hp, hl⟩ := h
  obtain ⟨i1, i2, i3, i4, i5, i6⟩ := hi
  have d0 := (Blk.new w 28 #[.pointer (some ⟨g, 0, none⟩)]).alloc (.cells #[.string name] 9)
  have d1 := Blk.new (w.alloc (.cells #[.pointer (some ⟨g, 0, none⟩)] 28)) 9 #[.string name]
  rw [World.size_alloc] at d1
  have hb0 : Below w.heap.size w ((w.alloc (.cells #[.pointer (some ⟨g, 0, none⟩)] 28)).alloc (.cells #[.string name] 9)) := ((Below.refl _ w).alloc (Nat.le_refl _) _).alloc (by simp) _
  have c0 := d0.cell 0
  rw [show (#[Value.pointer (some ⟨g, 0, none⟩)] : Array Value)[0]? = some (.pointer (some ⟨g, 0, none⟩)) from rfl] at c0
  have c1 := d1.cell 0
  rw [show (#[Value.string name] : Array Value)[0]? = some (.string name) from rfl] at c1
  go_enter Try.func34, Try.ntmps34
  go_upto_region 1 with (fail)
  generalize (w.alloc (.cells #[.pointer (some ⟨g, 0, none⟩)] 28)).alloc (.cells #[.string name] 9) = w1 at *
  have hb1 : Below w1.heap.size w1 (w1.alloc (.cells #[.string name] 9)) := (Below.refl _ w1).alloc (Nat.le_refl _) _
  have hd1 := (hd.below hb0).below hb1
  have hz := Nat.le_trans i1 hb0.size
  have H := hide (done_any (rq := none) (th := true) (dc := #[.pointer (some ⟨w.heap.size, 0, none⟩), .pointer (some ⟨w.heap.size + 1, 0, none⟩)]) (fun _ => 0) (fun W => Blk W w.heap.size 28 #[.pointer (some ⟨g, 0, none⟩)] ∧ Blk W (w.heap.size + 1) 9 #[.string name]) (fun f w' => DKs B w' g r (doP l name .rem) (st + 1) en (if en then lf - 1 else lf) ∧ BK B (w1.alloc (.cells #[.string name] 9)) w') (w1.alloc (.cells #[.string name] 9)) hd1 (Nat.le_trans hz hb1.size) (names := [name]) (name := name) (nn := 1) (bs := w1.heap.size)
    (Blk.new w1 9 (svs [name]).toArray) rfl (by decide) rfl (fun s hs => by rw [List.mem_singleton.1 hs]; exact i2) i3 i4 i5 i6 ⟨d0.below hb1 d0.lt, d1.below hb1 d1.lt⟩ (fun a b h hb => ⟨h.1.below hb h.1.lt, h.2.below hb h.2.lt⟩) (fun a i u st' lf' h hd => ⟨h.1.far (p := ⟨g, i, none⟩) (h.1.ne_ hd.1 (by decide)) u, h.2.far (p := ⟨g, i, none⟩) (h.2.ne_ hd.1 (by decide)) u⟩) (fun _ => rfl) ent_rem (fun W f hI h1 hf hfo hr0 hB1 hb => by
      refine (remove1_any (p := f.p) W hI.1 hI.2 h1.1 h1.2.2.2.1).mono ?_
      rintro e w2 ⟨rfl, o, rfl, hm⟩
      exact ⟨rfl, ⟨_, h1.drew.del hm, (del_perm (fnames hp hl) name).trans (drop_perm hp name), hl.drop name⟩, hb.drew.put (show Ms W.drew r (fs.map fkv) from h1.2.2.2.1) h1.2.2.1 _⟩))
  clear hd hd1 d0 d1
  go_wp2_with (first
    | (go_at_call 38
       go_must (
       refine H.out.mono ?_
       rintro e w2 ⟨E, rfl, hR⟩))
    | fail)
  go_ret
  obtain ⟨o1, o2, o3⟩ := done_out .rem hp hl rfl rfl (fun _ _ => rfl) (fun _ _ h => h) hR
  subst o1
  exact ⟨rfl, o2, (BK.of hb0 i1).trans ((BK.of hb1 hz).trans o3)⟩

set_option maxHeartbeats 4000000 in
theorem rename_op {B g r : Nat} {d : DS} {name tn : ByteArray} (w : World) (h : DKd B w g r d) (hi : DIn B w d name) (hto : tn.size ≤ 140737488351232) :
    Calls Try.prog 33 #[.pointer (some ⟨g, 0, none⟩), .string name, .string tn] w fun e w' => e = .returned (.int .i64 (errP d name (.ren tn))) ∧ DKd B w' g r (stepD d name (.ren tn)) ∧ BK B w w' := by
  obtain ⟨l, st, en, lf⟩ := d
  obtain ⟨fs, hd, hp, hl⟩ := h
  obtain ⟨i1, i2, i3, i4, i5, i6⟩ := hi
  have d0 := ((Blk.new w 28 #[.pointer (some ⟨g, 0, none⟩)]).alloc (.cells #[.string name] 9)).alloc (.cells #[.string tn] 9)
  have d1 := (Blk.new (w.alloc (.cells #[.pointer (some ⟨g, 0, none⟩)] 28)) 9 #[.string name]).alloc (.cells #[.string tn] 9)
  have d2 := Blk.new ((w.alloc (.cells #[.pointer (some ⟨g, 0, none⟩)] 28)).alloc (.cells #[.string name] 9)) 9 #[.string tn]
  rw [World.size_alloc] at d1
  rw [World.size_alloc, World.size_alloc] at d2
  have hb0 : Below w.heap.size w (((w.alloc (.cells #[.pointer (some ⟨g, 0, none⟩)] 28)).alloc (.cells #[.string name] 9)).alloc (.cells #[.string tn] 9)) := (((Below.refl _ w).alloc (Nat.le_refl _) _).alloc (by simp) _).alloc (by simp; omega) _
  have c0 := d0.cell 0
  rw [show (#[Value.pointer (some ⟨g, 0, none⟩)] : Array Value)[0]? = some (.pointer (some ⟨g, 0, none⟩)) from rfl] at c0
  have c1 := d1.cell 0
  rw [show (#[Value.string name] : Array Value)[0]? = some (.string name) from rfl] at c1
  have c2 := d2.cell 0
  rw [show (#[Value.string tn] : Array Value)[0]? = some (.string tn) from rfl] at c2
  go_enter Try.func33, Try.ntmps33
  go_upto_region 1 with (fail)
  generalize ((w.alloc (.cells #[.pointer (some ⟨g, 0, none⟩)] 28)).alloc (.cells #[.string name] 9)).alloc (.cells #[.string tn] 9) = w1 at *
  have hb1 : Below w1.heap.size w1 (w1.alloc (.cells #[.string name, .string tn] 9)) := (Below.refl _ w1).alloc (Nat.le_refl _) _
  have hd1 := (hd.below hb0).below hb1
  have hz := Nat.le_trans i1 hb0.size
  have H := hide (done_any (rq := none) (th := true) (dc := #[.pointer (some ⟨w.heap.size, 0, none⟩), .pointer (some ⟨w.heap.size + 1, 0, none⟩), .pointer (some ⟨w.heap.size + 1 + 1, 0, none⟩)]) (fun _ => 0) (fun W => Blk W w.heap.size 28 #[.pointer (some ⟨g, 0, none⟩)] ∧ Blk W (w.heap.size + 1) 9 #[.string name] ∧ Blk W (w.heap.size + 1 + 1) 9 #[.string tn]) (fun f w' => DKs B w' g r (doP l name (.ren tn)) (st + 1) en (if en then lf - 1 else lf) ∧ BK B (w1.alloc (.cells #[.string name, .string tn] 9)) w') (w1.alloc (.cells #[.string name, .string tn] 9)) hd1 (Nat.le_trans hz hb1.size) (names := [name, tn]) (name := name) (nn := 2) (bs := w1.heap.size)
    (Blk.new w1 9 (svs [name, tn]).toArray) rfl (by decide) rfl (fun s hs => by
      rcases List.mem_cons.1 hs with rfl | hs
      · exact i2
      · rw [List.mem_singleton.1 hs]; exact hto) i3 i4 i5 i6 ⟨d0.below hb1 d0.lt, d1.below hb1 d1.lt, d2.below hb1 d2.lt⟩ (fun a b h hb => ⟨h.1.below hb h.1.lt, h.2.1.below hb h.2.1.lt, h.2.2.below hb h.2.2.lt⟩) (fun a i u st' lf' h hd => ⟨h.1.far (p := ⟨g, i, none⟩) (h.1.ne_ hd.1 (by decide)) u, h.2.1.far (p := ⟨g, i, none⟩) (h.2.1.ne_ hd.1 (by decide)) u, h.2.2.far (p := ⟨g, i, none⟩) (h.2.2.ne_ hd.1 (by decide)) u⟩) (fun _ => rfl) ent_ren (fun W f hI h1 hf hfo hr0 hB1 hb => by
      obtain ⟨g1, g2, g3⟩ := hfo.get hp hl
      rcases hfo with hfo | ⟨_, h0, _⟩
      · refine (rename1_any (p := f.p) W hI.1 hI.2.1 hI.2.2 h1.1 h1.2.2.2.1).mono ?_
        rintro e w2 ⟨rfl, o, o', rfl, hm⟩
        have h2 : DK B ((W.drew.putObj r o).putObj r o') g r (putF (delF fs name) ⟨tn, f.p, f.A, f.n, f.c, f.b, f.sy⟩) (st + 1) en (if en then lf - 1 else lf) := (h1.drew).ren hfo hm
        refine ⟨rfl, ⟨_, h2, ?_⟩, by have hp1 := hb.drew.put (show Ms W.drew r (fs.map fkv) from h1.2.2.2.1) h1.2.2.1 o; exact ⟨hp1.1.drew.trans (below_put h1.2.2.1), fun k t cs hk e1 e2 e3 => by have h0 := hb.2 k t cs hk e1 e2 e3; have hne : k ≠ r := h1.2.2.2.1.ne h0; exact ((World.putObj_heap_other hne).trans (World.putObj_heap_other hne)).trans h0⟩⟩
        have hx : (tn, (getL l name).2.1, (getL l name).2.2) = fdat ⟨tn, f.p, f.A, f.n, f.c, f.b, f.sy⟩ := by
          rw [← g1]
          rfl
        have hp1 := (del_perm (fnames hp hl) name).trans (drop_perm hp name)
        show _ ∧ Rise (withL (dropL l name) _)
        unfold doP
        simp only
        rw [hx]
        exact with_of hp1 (hl.drop name) (put_perm (fnames hp1 (hl.drop name)) _)
      · cases h0))
  clear hd hd1 d0 d1 d2
  go_wp2_with (first
    | (go_at_call 38
       go_must (
       refine H.out.mono ?_
       rintro e w2 ⟨E, rfl, hR⟩))
    | fail)
  go_ret
  obtain ⟨o1, o2, o3⟩ := done_out (.ren tn) hp hl rfl rfl (fun _ _ => rfl) (fun _ _ h => h) hR
  subst o1
  exact ⟨rfl, o2, (BK.of hb0 i1).trans ((BK.of hb1 hz).trans o3)⟩

set_option maxHeartbeats 4000000 in
set_option maxRecDepth 20000 in
theorem append_op {B g r m cm : Nat} {d : DS} {name : ByteArray} {M : Option Addr} {bs : List UInt8} (w : World) (h : DKd B w g r d) (hi : DIn B w d name) (hM : Reads w w.heap.size 1 M m (bvs bs)) (hm : m ≤ 100000000) (hfl : ∀ x ∈ d.l, x.2.1.length ≤ 1048576) :
    Calls Try.prog 23 #[.pointer (some ⟨g, 0, none⟩), .string name, .slice M m cm] w fun e w' => e = .returned (.int .i64 (errP d name (.app bs))) ∧ DKd B w' g r (stepD d name (.app bs)) ∧ BK B w w' := by
  obtain ⟨l, st, en, lf⟩ := d
  obtain ⟨fs, hd, hp, hl⟩ := h
  obtain ⟨i1, i2, i3, i4, i5, i6⟩ := hi
  have hml : Hid (bs.length = m) := hM.blen
  have d0 := ((Blk.new w 28 #[.pointer (some ⟨g, 0, none⟩)]).alloc (.cells #[.string name] 9)).alloc (.cells #[.slice M m cm] 35)
  have d1 := (Blk.new (w.alloc (.cells #[.pointer (some ⟨g, 0, none⟩)] 28)) 9 #[.string name]).alloc (.cells #[.slice M m cm] 35)
  have d2 := Blk.new ((w.alloc (.cells #[.pointer (some ⟨g, 0, none⟩)] 28)).alloc (.cells #[.string name] 9)) 35 #[.slice M m cm]
  rw [World.size_alloc] at d1
  rw [World.size_alloc, World.size_alloc] at d2
  have hb0 : Below w.heap.size w (((w.alloc (.cells #[.pointer (some ⟨g, 0, none⟩)] 28)).alloc (.cells #[.string name] 9)).alloc (.cells #[.slice M m cm] 35)) := (((Below.refl _ w).alloc (Nat.le_refl _) _).alloc (by simp) _).alloc (by simp; omega) _
  have c0 := d0.cell 0
  rw [show (#[Value.pointer (some ⟨g, 0, none⟩)] : Array Value)[0]? = some (.pointer (some ⟨g, 0, none⟩)) from rfl] at c0
  have c1 := d1.cell 0
  rw [show (#[Value.string name] : Array Value)[0]? = some (.string name) from rfl] at c1
  go_enter Try.func23, Try.ntmps23
  go_upto_region 1 with (fail)
  generalize ((w.alloc (.cells #[.pointer (some ⟨g, 0, none⟩)] 28)).alloc (.cells #[.string name] 9)).alloc (.cells #[.slice M m cm] 35) = w1 at *
  have hb1 : Below w1.heap.size w1 (w1.alloc (.cells #[.string name] 9)) := (Below.refl _ w1).alloc (Nat.le_refl _) _
  have hd1 := (hd.below hb0).below hb1
  have hz := Nat.le_trans i1 hb0.size
  have hM1 := ((((hM.below hb0).more hb0.size).below hb1).more hb1.size)
  have hin : AppIn (w1.alloc (.cells #[.string name] 9)) g w1.heap.size w.heap.size (w.heap.size + 1) (w.heap.size + 1 + 1) m cm M name bs := ⟨Blk.new w1 _ _, d0.below hb1 d0.lt, d1.below hb1 d1.lt, d2.below hb1 d2.lt, hM1⟩
  have HLen : Hid (∀ f, FileOf fs name false f → f.b.length = f.n) := fun f hfo => by
    rcases hfo with hfo | ⟨_, _, _, _, h4, _, h5, _⟩
    · exact (hd.2.2.2.2.1 f (List.mem_of_find?_eq_some hfo)).len
    · rw [h4, h5]; rfl
  have hfn : ∀ f, FileOf fs name false f → f.b.length ≤ 1048576 := fun f hfo => by
    rcases hfo with hfo | ⟨_, _, _, _, _, _, h5, _⟩
    · exact hfl (fdat f) (hp.mem_iff.1 (List.mem_map.2 ⟨f, List.mem_of_find?_eq_some hfo, rfl⟩))
    · rw [h5]; decide
  have H := hide (done_any (rq := some (40, #[.pointer (some ⟨w.heap.size + 1 + 1, 0, none⟩)])) (th := false) (dc := #[.pointer (some ⟨w.heap.size + 1 + 1, 0, none⟩), .pointer (some ⟨w.heap.size, 0, none⟩), .pointer (some ⟨w.heap.size + 1, 0, none⟩)]) (fun f => if 1048576 < f.n + m then 3 else 0) (fun W => AppIn W g w1.heap.size w.heap.size (w.heap.size + 1) (w.heap.size + 1 + 1) m cm M name bs) (fun f w' => DKs B w' g r (doP l name (.app bs)) (st + 1) en (if en then lf - 1 else lf) ∧ BK B (w1.alloc (.cells #[.string name] 9)) w') (w1.alloc (.cells #[.string name] 9)) hd1 (Nat.le_trans hz hb1.size) (names := [name]) (name := name) (nn := 1) (bs := w1.heap.size)
    (Blk.new w1 9 (svs [name]).toArray) rfl (by decide) rfl (fun s hs => by rw [List.mem_singleton.1 hs]; exact i2) i3 i4 i5 i6 hin (fun a b h hb => h.below hb) (fun a i u st' lf' h hd => h.farI hd.1 u)
    ⟨ent_app1, fun W f hI hf hfo => append1_any W hf.1 hI.bytes (by rw [← hf.len]; exact hfn f hfo) hm⟩ ent_app2 (fun W f hI h1 hf hfo hr0 hB1 hb => by
      obtain ⟨g1, g2, g3⟩ := hfo.get hp hl
      have hfit : f.n + m ≤ 1048576 := by
        by_cases hx : 1048576 < f.n + m
        · rw [if_pos hx] at hr0; cases hr0
        · omega
      refine (append2_any (B := B) (b := f.b) (kvs := fs.map fkv) (lf := if en then lf - 1 else lf) (st := st + 1) (en := en) W hf.1 hf.2.2.1 hI.bytes hI.reads hI.disk hI.name h1.1 h1.2.2.2.1 hB1 hf.2.1 h1.2.2.1 hfit).mono ?_
      rintro e w6 ⟨rfl, A6, c6, hp6, ho6, hm6, hb6, hv6, hk6⟩
      have hrow : FRow B w6 ⟨name, f.p, A6, f.n + m, c6, f.b ++ bs, f.sy⟩ := ⟨hp6, hf.2.1, ho6, Nat.le_trans hf.2.2.2 (Nat.le_add_right _ _)⟩
      have hx : (name, (getL l name).2.1 ++ bs, (getL l name).2.2) = fdat ⟨name, f.p, A6, f.n + m, c6, f.b ++ bs, f.sy⟩ := by
        rw [← g1]
        rfl
      refine ⟨rfl, ?_, hb.kept hb6 hf h1.2.2.2.1 hk6⟩
      have hdo : doP l name (.app bs) = withL l (fdat ⟨name, f.p, A6, f.n + m, c6, f.b ++ bs, f.sy⟩) := by
        rw [← hx]
        rfl
      rw [hdo]
      rcases hfo with hfo | ⟨hfo, _, h1', h2', h3', h4', h5', h6', h7'⟩
      · have hmem := List.mem_of_find?_eq_some hfo
        have hm6' : Ms w6 r (fs.map fkv) := by
          rw [put_same (by rw [fkv_find, hfo]; rfl)] at hm6
          exact hm6
        exact ⟨_, h1.appended (f' := ⟨name, f.p, A6, f.n + m, c6, f.b ++ bs, f.sy⟩) hmem rfl g3.symm hrow hm6' hv6 hk6, with_of hp hl (upd_perm (f' := ⟨name, f.p, A6, f.n + m, c6, f.b ++ bs, f.sy⟩) (fnames hp hl) h1.2.2.2.2.2 hmem rfl g3.symm)⟩
      · have hm7' : Ms w6 r (fs.map fkv ++ [fkv ⟨name, f.p, A6, f.n + m, c6, f.b ++ bs, f.sy⟩]) := by
          rw [put_none _ (by rw [fkv_find, hfo]; rfl)] at hm6
          exact hm6
        have hap : ∀ x ∈ fs, FApart f x := fun x hx => ⟨fun e => h7' x hx e.symm, fun k hk => by rw [h2'] at hk; cases hk⟩
        refine ⟨_, h1.appended_new (f' := ⟨name, f.p, A6, f.n + m, c6, f.b ++ bs, f.sy⟩) hf hap rfl hrow hm7' hv6 hk6, with_of hp hl ?_⟩
        rw [List.map_append, List.map_cons, List.map_nil]
        refine List.perm_append_comm.trans ?_
        rw [drop_none (l := fs.map fdat) (fun y hy e => by
          obtain ⟨z, hz, rfl⟩ := List.mem_map.1 hy
          have := List.find?_eq_none.1 hfo z hz
          exact this (by simpa using (show z.name = name from e)))]
        exact .refl _))
  clear hd hd1 d0 d1 d2
  go_wp2_with (first
    | (go_at_call 38
       go_must (
       refine H.out.mono ?_
       rintro e w2 ⟨E, rfl, hR⟩))
    | fail)
  go_ret
  obtain ⟨o1, o2, o3⟩ := done_out (.app bs) hp hl rfl rfl (fun f hfo => by unfold ownP; simp only; rw [hml.out, show (fdat f).2.1.length = f.n from (HLen.out f hfo)]) (fun _ _ h => h) hR
  subst o1
  exact ⟨rfl, o2, (BK.of hb0 i1).trans ((BK.of hb1 hz).trans o3)⟩
end Go.Proofs.Ytaaaljpnhfmbpaa
