/- The walk of Append at a disk beside bytes that lie in a row of their own: a row that was laid behind the disk stays as it is where the step is done (package disk). Conditions: those of the theorem. -/
import Derived.Test.YtaaaljpnhfmbpaaDkS
namespace Go.Proofs.Ytaaaljpnhfmbpaa
open Go.RowKit
set_option linter.unusedVariables false

set_option maxHeartbeats 4000000 in
set_option maxRecDepth 20000 in
theorem append_keep {B g r m cm : Nat} {v : Value} {vn : Nat} {xs : List Value} {w0 : World} {d : DS} {name : ByteArray} {M : Option Addr} {bs : List UInt8} (w : World) (h : DKd B w0 g r d) (hbz : Below w0.heap.size w0 w) (hown : OwnZ w w0.heap.size 5 v vn xs) (hi : DIn B w d name) (hM : Reads w w.heap.size 1 M m (bvs bs)) (hm : m ≤ 100000000) (hfl : ∀ x ∈ d.l, x.2.1.length ≤ 1048576) :
    Calls Try.prog 23 #[.pointer (some ⟨g, 0, none⟩), .string name, .slice M m cm] w fun e w' => e = .returned (.int .i64 (errP d name (.app bs))) ∧ DKd B w' g r (stepD d name (.app bs)) ∧ BK B w w' ∧ (errP d name (.app bs) = 0 → OwnZ w' w0.heap.size 5 v vn xs) := by
  obtain ⟨l, st, en, lf⟩ := d
  obtain ⟨fs, hdz, hp, hl⟩ := h
  have hd := hdz.below hbz
  obtain ⟨i1, i2, i3, i4, i5, i6⟩ := hi
  have hml : Hid (bs.length = m) := hM.blen
  have d0 := ((Blk.new w 28 #[.pointer (some ⟨g, 0, none⟩)]).alloc (.cells #[.string name] 9)).alloc (.cells #[.slice M m cm] 35)
  have d1 := (Blk.new (w.alloc (.cells #[.pointer (some ⟨g, 0, none⟩)] 28)) 9 #[.string name]).alloc (.cells #[.slice M m cm] 35)
  have d2 := Blk.new ((w.alloc (.cells #[.pointer (some ⟨g, 0, none⟩)] 28)).alloc (.cells #[.string name] 9)) 35 #[.slice M m cm]
  rw [World.size_alloc] at d1
  rw [World.size_alloc, World.size_alloc] at d2
  have hb0 : Below w.heap.size w (((w.alloc (.cells #[.pointer (some ⟨g, 0, none⟩)] 28)).alloc (.cells #[.string name] 9)).alloc (.cells #[.slice M m cm] 35)) := (((Below.refl _ w).alloc (Nat.le_refl _) _).alloc (by simp) _).alloc (by simp; omega) _
  have c0 := d0.cell 0
  rw [show (#[Value.pointer (some ⟨g, 0, none⟩)] : Array Value)[0]? = some (.pointer (some ⟨g, 0, none⟩)) from rfl] at c0
  have c1 := d1.cell 0
  rw [show (#[Value.string name] : Array Value)[0]? = some (.string name) from rfl] at c1
  go_enter Try.func23, Try.ntmps23
  go_upto_region 1 with (fail)
  generalize ((w.alloc (.cells #[.pointer (some ⟨g, 0, none⟩)] 28)).alloc (.cells #[.string name] 9)).alloc (.cells #[.slice M m cm] 35) = w1 at *
  have hb1 : Below w1.heap.size w1 (w1.alloc (.cells #[.string name] 9)) := (Below.refl _ w1).alloc (Nat.le_refl _) _
  have hd1 := (hd.below hb0).below hb1
  have hz := Nat.le_trans i1 hb0.size
  have how1 := zown_below (zown_below hown hb0) hb1
  have hM1 := ((((hM.below hb0).more hb0.size).below hb1).more hb1.size)
  have hin : AppIn (w1.alloc (.cells #[.string name] 9)) g w1.heap.size w.heap.size (w.heap.size + 1) (w.heap.size + 1 + 1) m cm M name bs := ⟨Blk.new w1 _ _, d0.below hb1 d0.lt, d1.below hb1 d1.lt, d2.below hb1 d2.lt, hM1⟩
  have HLen : Hid (∀ f, FileOf fs name false f → f.b.length = f.n) := fun f hfo => by
    rcases hfo with hfo | ⟨_, _, _, _, h4, _, h5, _⟩
    · exact (hd.2.2.2.2.1 f (List.mem_of_find?_eq_some hfo)).len
    · rw [h4, h5]; rfl
  have hfn : ∀ f, FileOf fs name false f → f.b.length ≤ 1048576 := fun f hfo => by
    rcases hfo with hfo | ⟨_, _, _, _, _, _, h5, _⟩
    · exact hfl (fdat f) (hp.mem_iff.1 (List.mem_map.2 ⟨f, List.mem_of_find?_eq_some hfo, rfl⟩))
    · rw [h5]; decide
  have H := hide (done_any (rq := some (40, #[.pointer (some ⟨w.heap.size + 1 + 1, 0, none⟩)])) (th := false) (dc := #[.pointer (some ⟨w.heap.size + 1 + 1, 0, none⟩), .pointer (some ⟨w.heap.size, 0, none⟩), .pointer (some ⟨w.heap.size + 1, 0, none⟩)]) (fun f => if 1048576 < f.n + m then 3 else 0) (fun W => AppIn W g w1.heap.size w.heap.size (w.heap.size + 1) (w.heap.size + 1 + 1) m cm M name bs ∧ OwnZ W w0.heap.size 5 v vn xs) (fun f w' => DKs B w' g r (doP l name (.app bs)) (st + 1) en (if en then lf - 1 else lf) ∧ BK B (w1.alloc (.cells #[.string name] 9)) w' ∧ OwnZ w' w0.heap.size 5 v vn xs) (w1.alloc (.cells #[.string name] 9)) hd1 (Nat.le_trans hz hb1.size) (names := [name]) (name := name) (nn := 1) (bs := w1.heap.size)
    (Blk.new w1 9 (svs [name]).toArray) rfl (by decide) rfl (fun s hs => by rw [List.mem_singleton.1 hs]; exact i2) i3 i4 i5 i6 ⟨hin, how1⟩ (fun a b h hb => ⟨h.1.below hb, zown_below h.2 hb⟩) (fun a i u st' lf' h hd => ⟨h.1.farI hd.1 u, zown_far (p := ⟨g, i, none⟩) h.2 (zown_not h.2 hd.1 (by decide)) u⟩)
    ⟨ent_app1, fun W f hI hf hfo => append1_any W hf.1 hI.1.bytes (by rw [← hf.len]; exact hfn f hfo) hm⟩ ent_app2 (fun W f hI h1 hf hfo hr0 hB1 hb => by
      obtain ⟨g1, g2, g3⟩ := hfo.get hp hl
      have hfit : f.n + m ≤ 1048576 := by
        by_cases hx : 1048576 < f.n + m
        · rw [if_pos hx] at hr0; cases hr0
        · omega
      refine (append2_any (B := B) (b := f.b) (kvs := fs.map fkv) (lf := if en then lf - 1 else lf) (st := st + 1) (en := en) W hf.1 hf.2.2.1 hI.1.bytes hI.1.reads hI.1.disk hI.1.name h1.1 h1.2.2.2.1 hB1 hf.2.1 h1.2.2.1 hfit).mono ?_
      rintro e w6 ⟨rfl, A6, c6, hp6, ho6, hm6, hb6, hv6, hk6⟩
      have hrow : FRow B w6 ⟨name, f.p, A6, f.n + m, c6, f.b ++ bs, f.sy⟩ := ⟨hp6, hf.2.1, ho6, Nat.le_trans hf.2.2.2 (Nat.le_add_right _ _)⟩
      have hx : (name, (getL l name).2.1 ++ bs, (getL l name).2.2) = fdat ⟨name, f.p, A6, f.n + m, c6, f.b ++ bs, f.sy⟩ := by
        rw [← g1]
        rfl
      have hback : OwnZ w6 w0.heap.size 5 v vn xs := zown_kept hI.2 fun q hq => hk6.2 q (zown_lt hI.2 hq) (fun e => zown_not hI.2 hf.1 (by decide) (e ▸ hq)) (fun e => zown_not_map hI.2 h1.2.2.2.1 (e ▸ hq)) (fun e => by
        have hq1 := (zown_at hI.2 hq).1
        rcases hfo with hfo | ⟨_, _, _, h2', _⟩
        · have hq2 := zown_lt (hdz.2.2.2.2.1 f (List.mem_of_find?_eq_some hfo)).2.2.1 e
          omega
        · rw [h2'] at e
          cases e)
      refine ⟨rfl, ?_, hb.kept hb6 hf h1.2.2.2.1 hk6, hback⟩
      have hdo : doP l name (.app bs) = withL l (fdat ⟨name, f.p, A6, f.n + m, c6, f.b ++ bs, f.sy⟩) := by
        rw [← hx]
        rfl
      rw [hdo]
      rcases hfo with hfo | ⟨hfo, _, h1', h2', h3', h4', h5', h6', h7'⟩
      · have hmem := List.mem_of_find?_eq_some hfo
        have hm6' : Ms w6 r (fs.map fkv) := by
          rw [put_same (by rw [fkv_find, hfo]; rfl)] at hm6
          exact hm6
        exact ⟨_, h1.appended (f' := ⟨name, f.p, A6, f.n + m, c6, f.b ++ bs, f.sy⟩) hmem rfl g3.symm hrow hm6' hv6 hk6, with_of hp hl (upd_perm (f' := ⟨name, f.p, A6, f.n + m, c6, f.b ++ bs, f.sy⟩) (fnames hp hl) h1.2.2.2.2.2 hmem rfl g3.symm)⟩
      · have hm7' : Ms w6 r (fs.map fkv ++ [fkv ⟨name, f.p, A6, f.n + m, c6, f.b ++ bs, f.sy⟩]) := by
          rw [put_none _ (by rw [fkv_find, hfo]; rfl)] at hm6
          exact hm6
        have hap : ∀ x ∈ fs, FApart f x := fun x hx => ⟨fun e => h7' x hx e.symm, fun k hk => by rw [h2'] at hk; cases hk⟩
        refine ⟨_, h1.appended_new (f' := ⟨name, f.p, A6, f.n + m, c6, f.b ++ bs, f.sy⟩) hf hap rfl hrow hm7' hv6 hk6, with_of hp hl ?_⟩
        rw [List.map_append, List.map_cons, List.map_nil]
        refine List.perm_append_comm.trans ?_
        rw [drop_none (l := fs.map fdat) (fun y hy e => by
          obtain ⟨z, hz, rfl⟩ := List.mem_map.1 hy
          have := List.find?_eq_none.1 hfo z hz
          exact this (by simpa using (show z.name = name from e)))]
        exact .refl _))
  clear hd hd1 d0 d1 d2 hown
  go_wp2_with (first
    | (go_at_call 38
       go_must (
       refine H.out.mono ?_
       rintro e w2 ⟨E, rfl, hR⟩))
    | fail)
  go_ret
  obtain ⟨o1, o2, o3⟩ := done_out (.app bs) hp hl rfl rfl (fun f hfo => by unfold ownP; simp only; rw [hml.out, show (fdat f).2.1.length = f.n from (HLen.out f hfo)]) (fun _ _ h => ⟨h.1, h.2.1⟩) hR
  subst o1
  refine ⟨rfl, o2, (BK.of hb0 i1).trans ((BK.of hb1 hz).trans o3), fun h0 => ?_⟩
  rw [h0] at hR
  rcases hR with ⟨⟨_, h⟩, _⟩ | ⟨⟨_, _, _, h⟩, _⟩ | ⟨⟨_, f, _, h1, h⟩, _⟩ | ⟨⟨_, f, _, _, _, _, h⟩, _⟩ | ⟨_, f, _, _, _, _, hq⟩
  · cases h
  · cases h
  · exact absurd h.symm h1
  · cases h
  · exact hq.2.2
end Go.Proofs.Ytaaaljpnhfmbpaa
