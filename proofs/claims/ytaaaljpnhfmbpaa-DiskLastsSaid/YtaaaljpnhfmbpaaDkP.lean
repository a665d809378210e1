/- The walk of done for any step (package disk): its own functions come in with what they do. Conditions: those of the theorem. -/
import Derived.Test.YtaaaljpnhfmbpaaDkF
namespace Go.Proofs.Ytaaaljpnhfmbpaa
open Go.RowKit
set_option linter.unusedVariables false

theorem DK.left {B : Nat} {w : World} {g r : Nat} {fs : List FP} {st lf lf' : Int} {en : Bool} (h : DK B w g r fs st en lf) : DK B (w.setCell ⟨g, 3, none⟩ (.int .i64 lf')) g r fs st en lf' := by
  obtain ⟨h1, h2, h3, h4, h5, h6⟩ := h
  refine ⟨h1.set_ 3 _, h2, h3, h4.setCell (p := ⟨g, 3, none⟩) (fun e => h4.ne h1 e.symm) _, fun f hf => ?_, h6⟩
  obtain ⟨a1, a2, a3, a4⟩ := h5 f hf
  exact ⟨a1.far (p := ⟨g, 3, none⟩) (a1.ne_ h1 (by decide)) _, a2, zown_far a3 (p := ⟨g, 3, none⟩) (zown_not a3 h1 (by decide)) _, a4⟩
theorem FRow.setDisk {B : Nat} {w : World} {g r i : Nat} {f : FP} {fs : List FP} {st lf : Int} {en : Bool} (h : FRow B w f) (hd : DK B w g r fs st en lf) (u : Value) : FRow B (w.setCell ⟨g, i, none⟩ u) f := by
  obtain ⟨a1, a2, a3, a4⟩ := h
  exact ⟨a1.far (p := ⟨g, i, none⟩) (a1.ne_ hd.1 (by decide)) _, a2, zown_far a3 (p := ⟨g, i, none⟩) (zown_not a3 hd.1 (by decide)) _, a4⟩
/-- blocks of other types than a disk's stay -/
def KeepsO (w w' : World) : Prop := ∀ k t cs, Blk w k t cs → t ≠ 70 → t ≠ 67 → t ≠ 5 → Blk w' k t cs
/-- what lies below stays, and what is of other types -/
def BK (B : Nat) (w w' : World) : Prop := Below B w w' ∧ KeepsO w w'
theorem KeepsO.of {w w' : World} (h : Below w.heap.size w w') : KeepsO w w' := fun k t cs hk _ _ _ => hk.below h hk.lt
theorem BK.of {B : Nat} {w w' : World} (h : Below w.heap.size w w') (hB : B ≤ w.heap.size) : BK B w w' := ⟨h.mono hB, KeepsO.of h⟩
theorem BK.size {B : Nat} {w w' : World} (h : BK B w w') : w.heap.size ≤ w'.heap.size := h.1.size
theorem BK.trans {B : Nat} {a b c : World} (h : BK B a b) (k : BK B b c) : BK B a c := ⟨h.1.trans k.1, fun q t cs hq h1 h2 h3 => k.2 q t cs (h.2 q t cs hq h1 h2 h3) h1 h2 h3⟩
theorem BK.drewN {B : Nat} {a b : World} (h : BK B a b) (n : Nat) : BK B a (b.drewN n) := ⟨below_drewN h.1 n, h.2⟩
theorem BK.drew {B : Nat} {a b : World} (h : BK B a b) : BK B a b.drew := ⟨h.1.drew, h.2⟩
theorem BK.setDisk {B : Nat} {a w : World} {g r i : Nat} {fs : List FP} {st lf : Int} {en : Bool} (h : BK B a w) (hd : DK B w g r fs st en lf) (u : Value) : BK B a (w.setCell ⟨g, i, none⟩ u) :=
  ⟨h.1.setCell (p := ⟨g, i, none⟩) hd.2.1 u, fun k t cs hk h1 h2 h3 => (h.2 k t cs hk h1 h2 h3).far (p := ⟨g, i, none⟩) ((h.2 k t cs hk h1 h2 h3).ne_ hd.1 h1) u⟩
theorem BK.refl (B : Nat) (w : World) : BK B w w := ⟨Below.refl B w, fun _ _ _ h _ _ _ => h⟩
theorem BK.setBlk {B : Nat} {a w : World} {g i : Nat} {cs : Array Value} (h : BK B a w) (hg : Blk w g 70 cs) (hB : B ≤ g) (u : Value) : BK B a (w.setCell ⟨g, i, none⟩ u) :=
  ⟨h.1.setCell (p := ⟨g, i, none⟩) hB u, fun k t cs hk h1 h2 h3 => (h.2 k t cs hk h1 h2 h3).far (p := ⟨g, i, none⟩) ((h.2 k t cs hk h1 h2 h3).ne_ hg h1) u⟩
theorem BK.setFile {B : Nat} {a w : World} {f : FP} {i : Nat} (h : BK B a w) (hf : FRow B w f) (u : Value) : BK B a (w.setCell ⟨f.p, i, none⟩ u) :=
  ⟨h.1.setCell (p := ⟨f.p, i, none⟩) hf.2.1 u, fun k t cs hk h1 h2 h3 => (h.2 k t cs hk h1 h2 h3).far (p := ⟨f.p, i, none⟩) ((h.2 k t cs hk h1 h2 h3).ne_ hf.1 h2) u⟩
theorem BK.put {B : Nat} {a w : World} {r : Nat} {kvs : List KV} (h : BK B a w) (hm : Ms w r kvs) (hr : B ≤ r) (o : Obj) : BK B a (w.putObj r o) :=
  ⟨h.1.trans (below_put hr), fun k t cs hk h1 h2 h3 => (h.2 k t cs hk h1 h2 h3).putObj hm o⟩
theorem BK.kept {B : Nat} {a w w' : World} {f : FP} {r : Nat} {kvs : List KV} (h : BK B a w) (hb : Below B w w') (hf : FRow B w f) (hm : Ms w r kvs) (hk : KeptBut w w' f.p r (.slice f.A f.n f.c)) : BK B a w' :=
  ⟨h.1.trans hb, fun k t cs hq h1 h2 h3 => by
    have h0 := h.2 k t cs hq h1 h2 h3
    exact h0.kept (hk.2 k h0.lt (h0.ne_ hf.1 h2) (hm.ne h0) (zown_not hf.2.2.1 h0 h3))⟩
/-- the file that a step is about: the one of that name, or a new one -/
def FileOf (fs : List FP) (name : ByteArray) (th : Bool) (f : FP) : Prop := fs.find? (fun f => decide (f.name = name)) = some f ∨ (fs.find? (fun f => decide (f.name = name)) = none ∧ th = false ∧ f.name = name ∧ f.A = none ∧ f.n = 0 ∧ f.c = 0 ∧ f.b = [] ∧ f.sy = 0 ∧ ∀ x ∈ fs, x.p ≠ f.p)
abbrev stepV (bs nn : Nat) (th : Bool) (rf df : Value) : Array Value := #[.slice (some ⟨bs, 0, none⟩) nn nn, .bool th, rf, df]
def refV : Option (Nat × Array Value) → Value
  | none => .nilFunc
  | some (f, c) => .func (.func f) #[] c
/-- a call of this function enters it -/
def Ent (f : Nat) : Prop := ∀ (args : Array Value) (w : World), Sem.run Try.prog (callFunc f args) w = .ok (.enter f args) w
theorem ent_of {f : Nat} {fn : Func} {c : Code} (hf : Try.prog.funcs[f]? = some fn) (hname : (fn.name == "runtime.NumGoroutine") = false) (hb : fn.body = some c) : Ent f := by
  intro args w
  unfold callFunc
  simp only [Sem.run_bind, run_program, Result.andThen_ok, hf, hname, hb, Option.isNone_some, Sem.run_pure, Bool.false_eq_true, if_false]
/-- what a step's own test tells -/
def RefOk (B : Nat) (I : World → Prop) (refE : FP → Int) (PF : FP → Prop) : Option (Nat × Array Value) → Prop
  | none => ∀ f, refE f = 0
  | some (rf, rc) => Ent rf ∧ ∀ w1 f, I w1 → FRow B w1 f → PF f → Calls Try.prog rf (#[.pointer (some ⟨f.p, 0, none⟩)] ++ rc) w1 fun e w' => e = .returned (.int .i64 (refE f)) ∧ ∃ k, w' = w1.drewN k

/-- what done answers -/
def DoneR (B : Nat) (w : World) (g r : Nat) (fs : List FP) (st lf : Int) (en : Bool) (names : List ByteArray) (name : ByteArray) (th : Bool) (refE : FP → Int) (Q : FP → World → Prop) (E : Int) (w' : World) : Prop :=
  ((badL names = true ∧ E = 2) ∧ DK B w' g r fs st en lf ∧ BK B w w') ∨
  ((badL names = false ∧ fs.find? (fun f => decide (f.name = name)) = none ∧ th = true ∧ E = 5) ∧ DK B w' g r fs st en lf ∧ BK B w w') ∨
  ((badL names = false ∧ ∃ f, FileOf fs name th f ∧ refE f ≠ 0 ∧ E = refE f) ∧ DK B w' g r fs st en lf ∧ BK B w w') ∨
  ((badL names = false ∧ ∃ f, FileOf fs name th f ∧ refE f = 0 ∧ en = true ∧ lf = 0 ∧ E = 7) ∧ DK B w' g r fs st en lf ∧ BK B w w') ∨
  (badL names = false ∧ ∃ f, FileOf fs name th f ∧ refE f = 0 ∧ (en = true → lf ≠ 0) ∧ E = 0 ∧ Q f w')

set_option maxHeartbeats 16000000 in
set_option maxRecDepth 20000 in
theorem done_any {B g r bs nn : Nat} {fs : List FP} {st lf : Int} {en th : Bool} {names : List ByteArray} {name : ByteArray} {rq : Option (Nat × Array Value)} {df : Nat} {dc : Array Value} (refE : FP → Int) (I : World → Prop) (Q : FP → World → Prop) (w : World)
    (h : DK B w g r fs st en lf) (hB : B ≤ w.heap.size) (hin : Blk w bs 9 (svs names).toArray) (hnn : names.length = nn) (hnb : nn ≤ 100) (hname : names[0]? = some name) (hs : ∀ s ∈ names, s.size ≤ 140737488351232) (hst0 : 0 ≤ st) (hst1 : st ≤ 1000000000) (hlf0 : 0 ≤ lf) (hlf1 : lf ≤ 9223372036854775807)
    (hI : I w) (hIb : ∀ w1 w2, I w1 → Below w1.heap.size w1 w2 → I w2) (hIs : ∀ w1 i u st' lf', I w1 → DK B w1 g r fs st' en lf' → I (w1.setCell ⟨g, i, none⟩ u))
    (HR : RefOk B I refE (FileOf fs name th) rq) (HE : Ent df)
    (HD : ∀ w1 f, I w1 → DK B w1 g r fs (st + 1) en (if en then lf - 1 else lf) → FRow B w1 f → FileOf fs name th f → refE f = 0 → B ≤ w1.heap.size → BK B w w1 → Calls Try.prog df (#[.pointer (some ⟨f.p, 0, none⟩)] ++ dc) w1 fun e w' => e = .returned (.tuple #[]) ∧ Q f w') :
    Calls Try.prog 38 #[.pointer (some ⟨g, 0, none⟩), .agg (stepV bs nn th (refV rq) (.func (.func df) #[] dc))] w fun e w' => ∃ E, e = .returned (.int .i64 E) ∧ DoneR B w g r fs st lf en names name th refE Q E w' := by
  have hb1 : Below w.heap.size w (w.alloc (.cells (stepV bs nn th (refV rq) (.func (.func df) #[] dc)) 81)) := (Below.refl _ w).alloc (Nat.le_refl _) _
  have hk1 := Blk.new w 81 (stepV bs nn th (refV rq) (.func (.func df) #[] dc))
  have hin1 := hin.below hb1 hin.lt
  have h1 := h.below hb1
  have hI1 := hIb _ _ hI hb1
  have hpe := fun w => run_eql_disk w ⟨g, 0, none⟩
  have hme := fun w => run_eql_files w r
  have hwst : IntKind.i64.wrap (st + 1) = st + 1 := IntWalk.i64_in _ (by omega)
  have hlen : nn ≠ 0 := by
    intro e
    subst e
    cases names with
    | nil => cases hname
    | cons a b => cases hnn
  have hn0 : (0 : Int) < (nn : Int) := by omega
  have HW := hide h
  have hdf : ∀ args w, Sem.run Try.prog (callFunc df args) w = .ok (.enter df args) w := HE
  clear h hin hI
  obtain ⟨svR, hsvR⟩ : ∃ v, v = refV rq := ⟨_, rfl⟩
  rw [← hsvR] at hb1 hk1 hin1 h1 hI1 ⊢
  have HSV := hide hsvR
  clear hsvR
  go_enter Try.func38, Try.ntmps38
  go_upto_region 1 with (fail)
  generalize w.alloc (.cells (stepV bs nn th svR (.func (.func df) #[] dc)) 81) = w1 at *
  have c0 : w1.cell? ⟨g, 0, none⟩ = some (.map (some r)) := h1.1.cell 0
  have k0 : w1.cell? ⟨w.heap.size, 0, none⟩ = some (.slice (some ⟨bs, 0, none⟩) nn nn) := hk1.cell 0
  have HC := hide (contains_any (some ⟨bs, 0, none⟩) nn nn names w1 (hin1.texts hnn) (by omega) hs)
  cases hbad : badL names with
  | true =>
    rw [hbad] at HC
    go_wp2_with (first
      | (go_at_call 52; go_must (refine HC.out.mono ?_; rintro e w2 ⟨rfl, hb2⟩))
      | fail)
    go_ret
    exact ⟨2, rfl, .inl ⟨⟨hbad, rfl⟩, h1.below hb2, (BK.of hb1 hB).trans (BK.of hb2 (Nat.le_trans hB hb1.size))⟩⟩
  | false =>
    rw [hbad] at HC
    have HBD := hide hbad
    clear hbad
    go_upto_region 5 with (first
      | (go_at_call 52; go_must (refine HC.out.mono ?_; rintro e w2 ⟨rfl, hb2⟩))
      | fail)
    have h2 := h1.below hb2
    have hk2 := hk1.below hb2 hk1.lt
    have hin2 := hin1.below hb2 hin1.lt
    have hI2 := hIb _ _ hI1 hb2
    have hbw2 : BK B w w2 := (BK.of hb1 hB).trans (BK.of hb2 (Nat.le_trans hB hb1.size))
    have hz2 : w.heap.size < w2.heap.size := hk2.lt
    clear h1 hk1 hin1 hb1 hb2 c0 k0 HC hI1
    have c0 : w2.cell? ⟨g, 0, none⟩ = some (.map (some r)) := h2.1.cell 0
    have k0 : w2.cell? ⟨w.heap.size, 0, none⟩ = some (.slice (some ⟨bs, 0, none⟩) nn nn) := hk2.cell 0
    have n0 : w2.cell? ⟨bs, 0, none⟩ = some (.string name) := by
      rw [hin2.cell 0]
      unfold svs
      simp [hname]
    cases hfind : fs.find? (fun f => decide (f.name = name)) with
    | none =>
      have HF := hide hfind
      have hlk : ∀ n, (Instr.lookup 68 (.map (some r)) (.string name) true).run Try.prog (w2.drewN n) = .ok (.tuple #[.pointer none, .bool false]) (w2.drewN n) := fun n => by
        have := look_file (h2.drewN n).2.2.2.1 name
        rw [fkv_find, HF.out] at this
        exact this
      clear hfind
      go_quiet (fail)
      have h3 := h2.drewN nq
      have hk3 := hk2.drewN nq
      have hI3 := hIb _ _ hI2 (below_drewN (Below.refl _ _) nq)
      have hbw3 : BK B w (w2.drewN nq) := hbw2.drewN _
      have hz3 : w.heap.size < (w2.drewN nq).heap.size := hz2
      clear h2 hk2 hin2 hbw2 hz2 c0 k0 n0 hlk hI2
      generalize w2.drewN nq = w3 at *
      cases th with
      | true =>
        have k1 : w3.cell? ⟨w.heap.size, 1, none⟩ = some (.bool true) := hk3.cell 1
        go_wp2_with (fail)
        go_ret
        exact ⟨5, rfl, .inr (.inl ⟨⟨HBD.out, HF.out, rfl, rfl⟩, h3, hbw3⟩)⟩
      | false =>
        have k1 : w3.cell? ⟨w.heap.size, 1, none⟩ = some (.bool false) := hk3.cell 1
        go_upto_region 10 with (fail)
        have hp4 : Blk (w3.alloc (.cells #[.slice none 0 0, .int .i64 0] 67)) w3.heap.size 67 (fcells none 0 0 0) := Blk.new w3 _ _
        have hb34 : Below w3.heap.size w3 (w3.alloc (.cells #[.slice none 0 0, .int .i64 0] 67)) := (Below.refl _ w3).alloc (Nat.le_refl _) _
        have h4 := h3.below hb34
        have hk4 := hk3.below hb34 hk3.lt
        have hI4 := hIb _ _ hI3 hb34
        have hz3' : B ≤ w3.heap.size := Nat.le_trans hB hbw3.size
        have hbw4 := hbw3.trans (BK.of hb34 hz3')
        have hz4 : w.heap.size < (w3.alloc (.cells #[.slice none 0 0, .int .i64 0] 67)).heap.size := hk4.lt
        have hap : ∀ x ∈ fs, x.p ≠ w3.heap.size := fun x hx' => Nat.ne_of_lt (h3.2.2.2.2.1 x hx').1.lt
        obtain ⟨f, hfp, hff, HFO⟩ : ∃ f : FP, f.p = w3.heap.size ∧ FRow B (w3.alloc (.cells #[.slice none 0 0, .int .i64 0] 67)) f ∧ Hid (FileOf fs name false f) :=
          ⟨⟨name, w3.heap.size, none, 0, 0, [], 0⟩, rfl, ⟨hp4, hz3', zown_nil _ _ _, Nat.le_refl _⟩, .inr ⟨HF.out, rfl, rfl, rfl, rfl, rfl, rfl, rfl, hap⟩⟩
        rw [← hfp]
        generalize w3.alloc (.cells #[.slice none 0 0, .int .i64 0] 67) = w4 at *
        clear h3 hk3 hbw3 hz3 k1 hb34 hfp hap hp4 hI3 HF hz3'
        have k2 : w4.cell? ⟨w.heap.size, 2, none⟩ = some svR := hk4.cell 2
        have hne2 : ∀ fR c w, (binOp .neq 79 (.func (.func fR) #[] c) .nilFunc).run Try.prog w = .ok (.bool true) w := fun fR c w => run_neq_ref (.func fR) #[] c w
        have hnn2 := fun w => run_neq_nil w
        cases rq with
        | none =>
          obtain rfl : svR = .nilFunc := HSV.out
          have hr0 : refE f = 0 := HR f
          cases en with
          | false =>
            have g1 : w4.cell? ⟨g, 1, none⟩ = some (.int .i64 st) := h4.1.cell 1
            have g2 : w4.cell? ⟨g, 2, none⟩ = some (.bool false) := h4.1.cell 2
            have g3 : w4.cell? ⟨g, 3, none⟩ = some (.int .i64 lf) := h4.1.cell 3
            have f1 := h4.1.frozen 1
            have f3 := h4.1.frozen 3
            have k3 : (w4.setCell ⟨g, 1, none⟩ (.int .i64 (st + 1))).cell? ⟨w.heap.size, 3, none⟩ = some (.func (.func df) #[] dc) := (hk4.far (p := ⟨g, 1, none⟩) (hk4.ne_ h4.1 (by decide)) _).cell 3
            clear HR
            go_wp2_with (first
              | (with_reducible show Calls _ df _ _ _
                 go_must (
                 have h6 : DK B (w4.setCell ⟨g, 1, none⟩ (.int .i64 (st + 1))) g r fs (st + 1) false lf := h4.steps
                 have hff6 : FRow B (w4.setCell ⟨g, 1, none⟩ (.int .i64 (st + 1))) f := hff.setDisk h4 _
                 have hI6 : I (w4.setCell ⟨g, 1, none⟩ (.int .i64 (st + 1))) := hIs _ _ _ _ _ hI4 h4
                 have hb6 : BK B w (w4.setCell ⟨g, 1, none⟩ (.int .i64 (st + 1))) := hbw4.setDisk h4 _
                 generalize w4.setCell ⟨g, 1, none⟩ (.int .i64 (st + 1)) = w6 at *
                 refine (HD w6 f hI6 h6 hff6 HFO.out hr0 (Nat.le_trans hB hb6.size) hb6).mono ?_
                 rintro e w7 ⟨rfl, hq7⟩))
              | fail)
            go_ret
            exact ⟨0, rfl, .inr (.inr (.inr (.inr ⟨HBD.out, f, HFO.out, hr0, (fun h => Bool.noConfusion h), rfl, hq7⟩)))⟩
          | true =>
            by_cases hl0 : lf = 0
            · subst hl0
              have g1 : w4.cell? ⟨g, 1, none⟩ = some (.int .i64 st) := h4.1.cell 1
              have g2 : w4.cell? ⟨g, 2, none⟩ = some (.bool true) := h4.1.cell 2
              have g3 : w4.cell? ⟨g, 3, none⟩ = some (.int .i64 0) := h4.1.cell 3
              have f1 := h4.1.frozen 1
              have f3 := h4.1.frozen 3
              clear HR
              go_wp2_with (first
                | fail)
              go_ret
              exact ⟨7, rfl, .inr (.inr (.inr (.inl ⟨⟨HBD.out, f, HFO.out, hr0, rfl, rfl, rfl⟩, h4, hbw4⟩)))⟩
            · have HL0 := hide hl0
              have dl : ((lf : Int) == 0) = false := by simpa using hl0
              have hwl : IntKind.i64.wrap (lf - 1) = lf - 1 := IntWalk.i64_in _ (by omega)
              clear hl0
              have g1 : w4.cell? ⟨g, 1, none⟩ = some (.int .i64 st) := h4.1.cell 1
              have g2 : w4.cell? ⟨g, 2, none⟩ = some (.bool true) := h4.1.cell 2
              have g3 : w4.cell? ⟨g, 3, none⟩ = some (.int .i64 lf) := h4.1.cell 3
              have f1 := h4.1.frozen 1
              have f3 := h4.1.frozen 3
              have g1' : (w4.setCell ⟨g, 3, none⟩ (.int .i64 (lf - 1))).cell? ⟨g, 1, none⟩ = some (.int .i64 st) := (h4.left (lf' := lf - 1)).1.cell 1
              have f1' := (h4.left (lf' := lf - 1)).1.frozen 1
              have k3 : ((w4.setCell ⟨g, 3, none⟩ (.int .i64 (lf - 1))).setCell ⟨g, 1, none⟩ (.int .i64 (st + 1))).cell? ⟨w.heap.size, 3, none⟩ = some (.func (.func df) #[] dc) := ((hk4.far (p := ⟨g, 3, none⟩) (hk4.ne_ h4.1 (by decide)) _).far (p := ⟨g, 1, none⟩) (hk4.ne_ h4.1 (by decide)) _).cell 3
              clear HR
              go_wp2_with (first
                | (with_reducible show Calls _ df _ _ _
                   go_must (
                   have h6 : DK B ((w4.setCell ⟨g, 3, none⟩ (.int .i64 (lf - 1))).setCell ⟨g, 1, none⟩ (.int .i64 (st + 1))) g r fs (st + 1) true (lf - 1) := h4.left.steps
                   have hff6 : FRow B ((w4.setCell ⟨g, 3, none⟩ (.int .i64 (lf - 1))).setCell ⟨g, 1, none⟩ (.int .i64 (st + 1))) f := (hff.setDisk h4 _).setDisk (h4.left (lf' := lf - 1)) _
                   have hI6 : I ((w4.setCell ⟨g, 3, none⟩ (.int .i64 (lf - 1))).setCell ⟨g, 1, none⟩ (.int .i64 (st + 1))) := hIs _ _ _ _ _ (hIs _ _ _ _ _ hI4 h4) (h4.left (lf' := lf - 1))
                   have hb6 : BK B w ((w4.setCell ⟨g, 3, none⟩ (.int .i64 (lf - 1))).setCell ⟨g, 1, none⟩ (.int .i64 (st + 1))) := (hbw4.setDisk h4 _).setDisk (h4.left (lf' := lf - 1)) _
                   generalize (w4.setCell ⟨g, 3, none⟩ (.int .i64 (lf - 1))).setCell ⟨g, 1, none⟩ (.int .i64 (st + 1)) = w6 at *
                   refine (HD w6 f hI6 h6 hff6 HFO.out hr0 (Nat.le_trans hB hb6.size) hb6).mono ?_
                   rintro e w7 ⟨rfl, hq7⟩))
                | fail)
              go_ret
              exact ⟨0, rfl, .inr (.inr (.inr (.inr ⟨HBD.out, f, HFO.out, hr0, fun _ => HL0.out, rfl, hq7⟩)))⟩
        | some q =>
          obtain ⟨rf, rc⟩ := q
          obtain rfl : svR = .func (.func rf) #[] rc := HSV.out
          have hrf : ∀ args w, Sem.run Try.prog (callFunc rf args) w = .ok (.enter rf args) w := HR.1
          have H1 := HR.2 w4 f hI4 hff HFO.out
          by_cases hr0 : refE f = 0
          rotate_left
          · obtain ⟨E, hE⟩ : ∃ E, E = refE f := ⟨_, rfl⟩
            rw [← hE] at H1 hr0
            have HE := hide hE
            have d0 : ((E : Int) != 0) = true := by simpa using hr0
            have HH := hide H1
            have HR0 := hide hr0
            clear H1 hE hr0 HD
            go_wp2_with (first
              | (with_reducible show Calls _ rf _ _ _
                 go_must (
                 refine HH.out.mono ?_
                 rintro e w5 ⟨rfl, m5, rfl⟩))
              | fail)
            go_ret
            exact ⟨E, rfl, .inr (.inr (.inl ⟨⟨HBD.out, f, HFO.out, by rw [← HE.out]; exact HR0.out, HE.out⟩, h4.drewN m5, hbw4.drewN _⟩))⟩
          · rw [hr0] at H1
            have HH := hide H1
            clear H1
            cases en with
            | false =>
              go_wp2_with (first
                | (with_reducible show Calls _ rf _ _ _
                   go_must (
                   refine HH.out.mono ?_
                   rintro e w5 ⟨rfl, m5, hw5⟩
                   have h5 := (show DK B (w4.drewN m5) g r fs st _ _ from h4.drewN m5)
                   rw [← hw5] at h5
                   have hk5 : Blk w5 w.heap.size 81 (stepV bs nn false (.func (.func rf) #[] rc) (.func (.func df) #[] dc)) := by rw [hw5]; exact hk4.drewN m5
                   have hI5 : I w5 := by rw [hw5]; exact hIb _ _ hI4 (below_drewN (Below.refl _ _) m5)
                   have hbw5 : BK B w w5 := by rw [hw5]; exact hbw4.drewN _
                   have hz5 : w.heap.size < w5.heap.size := by rw [hw5]; exact hz4
                   have hff5 : FRow B w5 f := by rw [hw5]; exact hff
                   clear hw5 h4 hk4 hI4 hbw4 hz4 hff k2 HH
                   have g1 : w5.cell? ⟨g, 1, none⟩ = some (.int .i64 st) := h5.1.cell 1
                   have g2 : w5.cell? ⟨g, 2, none⟩ = some (.bool false) := h5.1.cell 2
                   have g3 : w5.cell? ⟨g, 3, none⟩ = some (.int .i64 lf) := h5.1.cell 3
                   have f1 := h5.1.frozen 1
                   have f3 := h5.1.frozen 3
                   have k3 : (w5.setCell ⟨g, 1, none⟩ (.int .i64 (st + 1))).cell? ⟨w.heap.size, 3, none⟩ = some (.func (.func df) #[] dc) := (hk5.far (p := ⟨g, 1, none⟩) (hk5.ne_ h5.1 (by decide)) _).cell 3))
                | (with_reducible show Calls _ df _ _ _
                   go_must (
                   have h6 : DK B (w5.setCell ⟨g, 1, none⟩ (.int .i64 (st + 1))) g r fs (st + 1) false lf := h5.steps
                   have hff6 : FRow B (w5.setCell ⟨g, 1, none⟩ (.int .i64 (st + 1))) f := hff5.setDisk h5 _
                   have hI6 : I (w5.setCell ⟨g, 1, none⟩ (.int .i64 (st + 1))) := hIs _ _ _ _ _ hI5 h5
                   have hb6 : BK B w (w5.setCell ⟨g, 1, none⟩ (.int .i64 (st + 1))) := hbw5.setDisk h5 _
                   generalize w5.setCell ⟨g, 1, none⟩ (.int .i64 (st + 1)) = w6 at *
                   refine (HD w6 f hI6 h6 hff6 HFO.out hr0 (Nat.le_trans hB hb6.size) hb6).mono ?_
                   rintro e w7 ⟨rfl, hq7⟩))
                | fail)
              go_ret
              exact ⟨0, rfl, .inr (.inr (.inr (.inr ⟨HBD.out, f, HFO.out, hr0, (fun h => Bool.noConfusion h), rfl, hq7⟩)))⟩
            | true =>
              by_cases hl0 : lf = 0
              · subst hl0
                go_wp2_with (first
                  | (with_reducible show Calls _ rf _ _ _
                     go_must (
                     refine HH.out.mono ?_
                     rintro e w5 ⟨rfl, m5, hw5⟩
                     have h5 := (show DK B (w4.drewN m5) g r fs st _ _ from h4.drewN m5)
                     rw [← hw5] at h5
                     have hk5 : Blk w5 w.heap.size 81 (stepV bs nn false (.func (.func rf) #[] rc) (.func (.func df) #[] dc)) := by rw [hw5]; exact hk4.drewN m5
                     have hI5 : I w5 := by rw [hw5]; exact hIb _ _ hI4 (below_drewN (Below.refl _ _) m5)
                     have hbw5 : BK B w w5 := by rw [hw5]; exact hbw4.drewN _
                     have hz5 : w.heap.size < w5.heap.size := by rw [hw5]; exact hz4
                     have hff5 : FRow B w5 f := by rw [hw5]; exact hff
                     clear hw5 h4 hk4 hI4 hbw4 hz4 hff k2 HH
                     have g1 : w5.cell? ⟨g, 1, none⟩ = some (.int .i64 st) := h5.1.cell 1
                     have g2 : w5.cell? ⟨g, 2, none⟩ = some (.bool true) := h5.1.cell 2
                     have g3 : w5.cell? ⟨g, 3, none⟩ = some (.int .i64 0) := h5.1.cell 3
                     have f1 := h5.1.frozen 1
                     have f3 := h5.1.frozen 3))
                  | fail)
                go_ret
                exact ⟨7, rfl, .inr (.inr (.inr (.inl ⟨⟨HBD.out, f, HFO.out, hr0, rfl, rfl, rfl⟩, h5, hbw5⟩)))⟩
              · have HL0 := hide hl0
                have dl : ((lf : Int) == 0) = false := by simpa using hl0
                have hwl : IntKind.i64.wrap (lf - 1) = lf - 1 := IntWalk.i64_in _ (by omega)
                clear hl0
                go_wp2_with (first
                  | (with_reducible show Calls _ rf _ _ _
                     go_must (
                     refine HH.out.mono ?_
                     rintro e w5 ⟨rfl, m5, hw5⟩
                     have h5 := (show DK B (w4.drewN m5) g r fs st _ _ from h4.drewN m5)
                     rw [← hw5] at h5
                     have hk5 : Blk w5 w.heap.size 81 (stepV bs nn false (.func (.func rf) #[] rc) (.func (.func df) #[] dc)) := by rw [hw5]; exact hk4.drewN m5
                     have hI5 : I w5 := by rw [hw5]; exact hIb _ _ hI4 (below_drewN (Below.refl _ _) m5)
                     have hbw5 : BK B w w5 := by rw [hw5]; exact hbw4.drewN _
                     have hz5 : w.heap.size < w5.heap.size := by rw [hw5]; exact hz4
                     have hff5 : FRow B w5 f := by rw [hw5]; exact hff
                     clear hw5 h4 hk4 hI4 hbw4 hz4 hff k2 HH
                     have g1 : w5.cell? ⟨g, 1, none⟩ = some (.int .i64 st) := h5.1.cell 1
                     have g2 : w5.cell? ⟨g, 2, none⟩ = some (.bool true) := h5.1.cell 2
                     have g3 : w5.cell? ⟨g, 3, none⟩ = some (.int .i64 lf) := h5.1.cell 3
                     have f1 := h5.1.frozen 1
                     have f3 := h5.1.frozen 3
                     have g1' : (w5.setCell ⟨g, 3, none⟩ (.int .i64 (lf - 1))).cell? ⟨g, 1, none⟩ = some (.int .i64 st) := (h5.left (lf' := lf - 1)).1.cell 1
                     have f1' := (h5.left (lf' := lf - 1)).1.frozen 1
                     have k3 : ((w5.setCell ⟨g, 3, none⟩ (.int .i64 (lf - 1))).setCell ⟨g, 1, none⟩ (.int .i64 (st + 1))).cell? ⟨w.heap.size, 3, none⟩ = some (.func (.func df) #[] dc) := ((hk5.far (p := ⟨g, 3, none⟩) (hk5.ne_ h5.1 (by decide)) _).far (p := ⟨g, 1, none⟩) (hk5.ne_ h5.1 (by decide)) _).cell 3))
                  | (with_reducible show Calls _ df _ _ _
                     go_must (
                     have h6 : DK B ((w5.setCell ⟨g, 3, none⟩ (.int .i64 (lf - 1))).setCell ⟨g, 1, none⟩ (.int .i64 (st + 1))) g r fs (st + 1) true (lf - 1) := h5.left.steps
                     have hff6 : FRow B ((w5.setCell ⟨g, 3, none⟩ (.int .i64 (lf - 1))).setCell ⟨g, 1, none⟩ (.int .i64 (st + 1))) f := (hff5.setDisk h5 _).setDisk (h5.left (lf' := lf - 1)) _
                     have hI6 : I ((w5.setCell ⟨g, 3, none⟩ (.int .i64 (lf - 1))).setCell ⟨g, 1, none⟩ (.int .i64 (st + 1))) := hIs _ _ _ _ _ (hIs _ _ _ _ _ hI5 h5) (h5.left (lf' := lf - 1))
                     have hb6 : BK B w ((w5.setCell ⟨g, 3, none⟩ (.int .i64 (lf - 1))).setCell ⟨g, 1, none⟩ (.int .i64 (st + 1))) := (hbw5.setDisk h5 _).setDisk (h5.left (lf' := lf - 1)) _
                     generalize (w5.setCell ⟨g, 3, none⟩ (.int .i64 (lf - 1))).setCell ⟨g, 1, none⟩ (.int .i64 (st + 1)) = w6 at *
                     refine (HD w6 f hI6 h6 hff6 HFO.out hr0 (Nat.le_trans hB hb6.size) hb6).mono ?_
                     rintro e w7 ⟨rfl, hq7⟩))
                  | fail)
                go_ret
                exact ⟨0, rfl, .inr (.inr (.inr (.inr ⟨HBD.out, f, HFO.out, hr0, fun _ => HL0.out, rfl, hq7⟩)))⟩
    | some f =>
      have HF := hide hfind
      have hlk : ∀ n, (Instr.lookup 68 (.map (some r)) (.string name) true).run Try.prog (w2.drewN n) = .ok (.tuple #[.pointer (some ⟨f.p, 0, none⟩), .bool true]) (w2.drewN n) := fun n => by
        have := look_file (h2.drewN n).2.2.2.1 name
        rw [fkv_find, HF.out] at this
        exact this
      clear hfind
      go_quiet (fail)
      have h4 := h2.drewN nq
      have hk4 := hk2.drewN nq
      have hI4 := hIb _ _ hI2 (below_drewN (Below.refl _ _) nq)
      have hbw4 : BK B w (w2.drewN nq) := hbw2.drewN _
      have hz4 : w.heap.size < (w2.drewN nq).heap.size := hz2
      have hff : FRow B (w2.drewN nq) f := h4.2.2.2.2.1 f (List.mem_of_find?_eq_some HF.out)
      have HFO : Hid (FileOf fs name th f) := .inl HF.out
      clear h2 hk2 hin2 hbw2 hz2 c0 k0 n0 hlk hI2 HF
      generalize w2.drewN nq = w4 at *
      have k2 : w4.cell? ⟨w.heap.size, 2, none⟩ = some svR := hk4.cell 2
      have hne2 : ∀ fR c w, (binOp .neq 79 (.func (.func fR) #[] c) .nilFunc).run Try.prog w = .ok (.bool true) w := fun fR c w => run_neq_ref (.func fR) #[] c w
      have hnn2 := fun w => run_neq_nil w
      cases rq with
      | none =>
        obtain rfl : svR = .nilFunc := HSV.out
        have hr0 : refE f = 0 := HR f
        cases en with
        | false =>
          have g1 : w4.cell? ⟨g, 1, none⟩ = some (.int .i64 st) := h4.1.cell 1
          have g2 : w4.cell? ⟨g, 2, none⟩ = some (.bool false) := h4.1.cell 2
          have g3 : w4.cell? ⟨g, 3, none⟩ = some (.int .i64 lf) := h4.1.cell 3
          have f1 := h4.1.frozen 1
          have f3 := h4.1.frozen 3
          have k3 : (w4.setCell ⟨g, 1, none⟩ (.int .i64 (st + 1))).cell? ⟨w.heap.size, 3, none⟩ = some (.func (.func df) #[] dc) := (hk4.far (p := ⟨g, 1, none⟩) (hk4.ne_ h4.1 (by decide)) _).cell 3
          clear HR
          go_wp2_with (first
            | (with_reducible show Calls _ df _ _ _
               go_must (
               have h6 : DK B (w4.setCell ⟨g, 1, none⟩ (.int .i64 (st + 1))) g r fs (st + 1) false lf := h4.steps
               have hff6 : FRow B (w4.setCell ⟨g, 1, none⟩ (.int .i64 (st + 1))) f := hff.setDisk h4 _
               have hI6 : I (w4.setCell ⟨g, 1, none⟩ (.int .i64 (st + 1))) := hIs _ _ _ _ _ hI4 h4
               have hb6 : BK B w (w4.setCell ⟨g, 1, none⟩ (.int .i64 (st + 1))) := hbw4.setDisk h4 _
               generalize w4.setCell ⟨g, 1, none⟩ (.int .i64 (st + 1)) = w6 at *
               refine (HD w6 f hI6 h6 hff6 HFO.out hr0 (Nat.le_trans hB hb6.size) hb6).mono ?_
               rintro e w7 ⟨rfl, hq7⟩))
            | fail)
          go_ret
          exact ⟨0, rfl, .inr (.inr (.inr (.inr ⟨HBD.out, f, HFO.out, hr0, (fun h => Bool.noConfusion h), rfl, hq7⟩)))⟩
        | true =>
          by_cases hl0 : lf = 0
          · subst hl0
            have g1 : w4.cell? ⟨g, 1, none⟩ = some (.int .i64 st) := h4.1.cell 1
            have g2 : w4.cell? ⟨g, 2, none⟩ = some (.bool true) := h4.1.cell 2
            have g3 : w4.cell? ⟨g, 3, none⟩ = some (.int .i64 0) := h4.1.cell 3
            have f1 := h4.1.frozen 1
            have f3 := h4.1.frozen 3
            clear HR
            go_wp2_with (first
              | fail)
            go_ret
            exact ⟨7, rfl, .inr (.inr (.inr (.inl ⟨⟨HBD.out, f, HFO.out, hr0, rfl, rfl, rfl⟩, h4, hbw4⟩)))⟩
          · have HL0 := hide hl0
            have dl : ((lf : Int) == 0) = false := by simpa using hl0
            have hwl : IntKind.i64.wrap (lf - 1) = lf - 1 := IntWalk.i64_in _ (by omega)
            clear hl0
            have g1 : w4.cell? ⟨g, 1, none⟩ = some (.int .i64 st) := h4.1.cell 1
            have g2 : w4.cell? ⟨g, 2, none⟩ = some (.bool true) := h4.1.cell 2
            have g3 : w4.cell? ⟨g, 3, none⟩ = some (.int .i64 lf) := h4.1.cell 3
            have f1 := h4.1.frozen 1
            have f3 := h4.1.frozen 3
            have g1' : (w4.setCell ⟨g, 3, none⟩ (.int .i64 (lf - 1))).cell? ⟨g, 1, none⟩ = some (.int .i64 st) := (h4.left (lf' := lf - 1)).1.cell 1
            have f1' := (h4.left (lf' := lf - 1)).1.frozen 1
            have k3 : ((w4.setCell ⟨g, 3, none⟩ (.int .i64 (lf - 1))).setCell ⟨g, 1, none⟩ (.int .i64 (st + 1))).cell? ⟨w.heap.size, 3, none⟩ = some (.func (.func df) #[] dc) := ((hk4.far (p := ⟨g, 3, none⟩) (hk4.ne_ h4.1 (by decide)) _).far (p := ⟨g, 1, none⟩) (hk4.ne_ h4.1 (by decide)) _).cell 3
            clear HR
            go_wp2_with (first
              | (with_reducible show Calls _ df _ _ _
                 go_must (
                 have h6 : DK B ((w4.setCell ⟨g, 3, none⟩ (.int .i64 (lf - 1))).setCell ⟨g, 1, none⟩ (.int .i64 (st + 1))) g r fs (st + 1) true (lf - 1) := h4.left.steps
                 have hff6 : FRow B ((w4.setCell ⟨g, 3, none⟩ (.int .i64 (lf - 1))).setCell ⟨g, 1, none⟩ (.int .i64 (st + 1))) f := (hff.setDisk h4 _).setDisk (h4.left (lf' := lf - 1)) _
                 have hI6 : I ((w4.setCell ⟨g, 3, none⟩ (.int .i64 (lf - 1))).setCell ⟨g, 1, none⟩ (.int .i64 (st + 1))) := hIs _ _ _ _ _ (hIs _ _ _ _ _ hI4 h4) (h4.left (lf' := lf - 1))
                 have hb6 : BK B w ((w4.setCell ⟨g, 3, none⟩ (.int .i64 (lf - 1))).setCell ⟨g, 1, none⟩ (.int .i64 (st + 1))) := (hbw4.setDisk h4 _).setDisk (h4.left (lf' := lf - 1)) _
                 generalize (w4.setCell ⟨g, 3, none⟩ (.int .i64 (lf - 1))).setCell ⟨g, 1, none⟩ (.int .i64 (st + 1)) = w6 at *
                 refine (HD w6 f hI6 h6 hff6 HFO.out hr0 (Nat.le_trans hB hb6.size) hb6).mono ?_
                 rintro e w7 ⟨rfl, hq7⟩))
              | fail)
            go_ret
            exact ⟨0, rfl, .inr (.inr (.inr (.inr ⟨HBD.out, f, HFO.out, hr0, fun _ => HL0.out, rfl, hq7⟩)))⟩
      | some q =>
        obtain ⟨rf, rc⟩ := q
        obtain rfl : svR = .func (.func rf) #[] rc := HSV.out
        have hrf : ∀ args w, Sem.run Try.prog (callFunc rf args) w = .ok (.enter rf args) w := HR.1
        have H1 := HR.2 w4 f hI4 hff HFO.out
        by_cases hr0 : refE f = 0
        rotate_left
        · obtain ⟨E, hE⟩ : ∃ E, E = refE f := ⟨_, rfl⟩
          rw [← hE] at H1 hr0
          have HE := hide hE
          have d0 : ((E : Int) != 0) = true := by simpa using hr0
          have HH := hide H1
          have HR0 := hide hr0
          clear H1 hE hr0 HD
          go_wp2_with (first
            | (with_reducible show Calls _ rf _ _ _
               go_must (
               refine HH.out.mono ?_
               rintro e w5 ⟨rfl, m5, rfl⟩))
            | fail)
          go_ret
          exact ⟨E, rfl, .inr (.inr (.inl ⟨⟨HBD.out, f, HFO.out, by rw [← HE.out]; exact HR0.out, HE.out⟩, h4.drewN m5, hbw4.drewN _⟩))⟩
        · rw [hr0] at H1
          have HH := hide H1
          clear H1
          cases en with
          | false =>
            go_wp2_with (first
              | (with_reducible show Calls _ rf _ _ _
                 go_must (
                 refine HH.out.mono ?_
                 rintro e w5 ⟨rfl, m5, hw5⟩
                 have h5 := (show DK B (w4.drewN m5) g r fs st _ _ from h4.drewN m5)
                 rw [← hw5] at h5
                 have hk5 : Blk w5 w.heap.size 81 (stepV bs nn th (.func (.func rf) #[] rc) (.func (.func df) #[] dc)) := by rw [hw5]; exact hk4.drewN m5
                 have hI5 : I w5 := by rw [hw5]; exact hIb _ _ hI4 (below_drewN (Below.refl _ _) m5)
                 have hbw5 : BK B w w5 := by rw [hw5]; exact hbw4.drewN _
                 have hz5 : w.heap.size < w5.heap.size := by rw [hw5]; exact hz4
                 have hff5 : FRow B w5 f := by rw [hw5]; exact hff
                 clear hw5 h4 hk4 hI4 hbw4 hz4 hff k2 HH
                 have g1 : w5.cell? ⟨g, 1, none⟩ = some (.int .i64 st) := h5.1.cell 1
                 have g2 : w5.cell? ⟨g, 2, none⟩ = some (.bool false) := h5.1.cell 2
                 have g3 : w5.cell? ⟨g, 3, none⟩ = some (.int .i64 lf) := h5.1.cell 3
                 have f1 := h5.1.frozen 1
                 have f3 := h5.1.frozen 3
                 have k3 : (w5.setCell ⟨g, 1, none⟩ (.int .i64 (st + 1))).cell? ⟨w.heap.size, 3, none⟩ = some (.func (.func df) #[] dc) := (hk5.far (p := ⟨g, 1, none⟩) (hk5.ne_ h5.1 (by decide)) _).cell 3))
              | (with_reducible show Calls _ df _ _ _
                 go_must (
                 have h6 : DK B (w5.setCell ⟨g, 1, none⟩ (.int .i64 (st + 1))) g r fs (st + 1) false lf := h5.steps
                 have hff6 : FRow B (w5.setCell ⟨g, 1, none⟩ (.int .i64 (st + 1))) f := hff5.setDisk h5 _
                 have hI6 : I (w5.setCell ⟨g, 1, none⟩ (.int .i64 (st + 1))) := hIs _ _ _ _ _ hI5 h5
                 have hb6 : BK B w (w5.setCell ⟨g, 1, none⟩ (.int .i64 (st + 1))) := hbw5.setDisk h5 _
                 generalize w5.setCell ⟨g, 1, none⟩ (.int .i64 (st + 1)) = w6 at *
                 refine (HD w6 f hI6 h6 hff6 HFO.out hr0 (Nat.le_trans hB hb6.size) hb6).mono ?_
                 rintro e w7 ⟨rfl, hq7⟩))
              | fail)
            go_ret
            exact ⟨0, rfl, .inr (.inr (.inr (.inr ⟨HBD.out, f, HFO.out, hr0, (fun h => Bool.noConfusion h), rfl, hq7⟩)))⟩
          | true =>
            by_cases hl0 : lf = 0
            · subst hl0
              go_wp2_with (first
                | (with_reducible show Calls _ rf _ _ _
                   go_must (
                   refine HH.out.mono ?_
                   rintro e w5 ⟨rfl, m5, hw5⟩
                   have h5 := (show DK B (w4.drewN m5) g r fs st _ _ from h4.drewN m5)
                   rw [← hw5] at h5
                   have hk5 : Blk w5 w.heap.size 81 (stepV bs nn th (.func (.func rf) #[] rc) (.func (.func df) #[] dc)) := by rw [hw5]; exact hk4.drewN m5
                   have hI5 : I w5 := by rw [hw5]; exact hIb _ _ hI4 (below_drewN (Below.refl _ _) m5)
                   have hbw5 : BK B w w5 := by rw [hw5]; exact hbw4.drewN _
                   have hz5 : w.heap.size < w5.heap.size := by rw [hw5]; exact hz4
                   have hff5 : FRow B w5 f := by rw [hw5]; exact hff
                   clear hw5 h4 hk4 hI4 hbw4 hz4 hff k2 HH
                   have g1 : w5.cell? ⟨g, 1, none⟩ = some (.int .i64 st) := h5.1.cell 1
                   have g2 : w5.cell? ⟨g, 2, none⟩ = some (.bool true) := h5.1.cell 2
                   have g3 : w5.cell? ⟨g, 3, none⟩ = some (.int .i64 0) := h5.1.cell 3
                   have f1 := h5.1.frozen 1
                   have f3 := h5.1.frozen 3))
                | fail)
              go_ret
              exact ⟨7, rfl, .inr (.inr (.inr (.inl ⟨⟨HBD.out, f, HFO.out, hr0, rfl, rfl, rfl⟩, h5, hbw5⟩)))⟩
            · have HL0 := hide hl0
              have dl : ((lf : Int) == 0) = false := by simpa using hl0
              have hwl : IntKind.i64.wrap (lf - 1) = lf - 1 := IntWalk.i64_in _ (by omega)
              clear hl0
              go_wp2_with (first
                | (with_reducible show Calls _ rf _ _ _
                   go_must (
                   refine HH.out.mono ?_
                   rintro e w5 ⟨rfl, m5, hw5⟩
                   have h5 := (show DK B (w4.drewN m5) g r fs st _ _ from h4.drewN m5)
                   rw [← hw5] at h5
                   have hk5 : Blk w5 w.heap.size 81 (stepV bs nn th (.func (.func rf) #[] rc) (.func (.func df) #[] dc)) := by rw [hw5]; exact hk4.drewN m5
                   have hI5 : I w5 := by rw [hw5]; exact hIb _ _ hI4 (below_drewN (Below.refl _ _) m5)
                   have hbw5 : BK B w w5 := by rw [hw5]; exact hbw4.drewN _
                   have hz5 : w.heap.size < w5.heap.size := by rw [hw5]; exact hz4
                   have hff5 : FRow B w5 f := by rw [hw5]; exact hff
                   clear hw5 h4 hk4 hI4 hbw4 hz4 hff k2 HH
                   have g1 : w5.cell? ⟨g, 1, none⟩ = some (.int .i64 st) := h5.1.cell 1
                   have g2 : w5.cell? ⟨g, 2, none⟩ = some (.bool true) := h5.1.cell 2
                   have g3 : w5.cell? ⟨g, 3, none⟩ = some (.int .i64 lf) := h5.1.cell 3
                   have f1 := h5.1.frozen 1
                   have f3 := h5.1.frozen 3
                   have g1' : (w5.setCell ⟨g, 3, none⟩ (.int .i64 (lf - 1))).cell? ⟨g, 1, none⟩ = some (.int .i64 st) := (h5.left (lf' := lf - 1)).1.cell 1
                   have f1' := (h5.left (lf' := lf - 1)).1.frozen 1
                   have k3 : ((w5.setCell ⟨g, 3, none⟩ (.int .i64 (lf - 1))).setCell ⟨g, 1, none⟩ (.int .i64 (st + 1))).cell? ⟨w.heap.size, 3, none⟩ = some (.func (.func df) #[] dc) := ((hk5.far (p := ⟨g, 3, none⟩) (hk5.ne_ h5.1 (by decide)) _).far (p := ⟨g, 1, none⟩) (hk5.ne_ h5.1 (by decide)) _).cell 3))
                | (with_reducible show Calls _ df _ _ _
                   go_must (
                   have h6 : DK B ((w5.setCell ⟨g, 3, none⟩ (.int .i64 (lf - 1))).setCell ⟨g, 1, none⟩ (.int .i64 (st + 1))) g r fs (st + 1) true (lf - 1) := h5.left.steps
                   have hff6 : FRow B ((w5.setCell ⟨g, 3, none⟩ (.int .i64 (lf - 1))).setCell ⟨g, 1, none⟩ (.int .i64 (st + 1))) f := (hff5.setDisk h5 _).setDisk (h5.left (lf' := lf - 1)) _
                   have hI6 : I ((w5.setCell ⟨g, 3, none⟩ (.int .i64 (lf - 1))).setCell ⟨g, 1, none⟩ (.int .i64 (st + 1))) := hIs _ _ _ _ _ (hIs _ _ _ _ _ hI5 h5) (h5.left (lf' := lf - 1))
                   have hb6 : BK B w ((w5.setCell ⟨g, 3, none⟩ (.int .i64 (lf - 1))).setCell ⟨g, 1, none⟩ (.int .i64 (st + 1))) := (hbw5.setDisk h5 _).setDisk (h5.left (lf' := lf - 1)) _
                   generalize (w5.setCell ⟨g, 3, none⟩ (.int .i64 (lf - 1))).setCell ⟨g, 1, none⟩ (.int .i64 (st + 1)) = w6 at *
                   refine (HD w6 f hI6 h6 hff6 HFO.out hr0 (Nat.le_trans hB hb6.size) hb6).mono ?_
                   rintro e w7 ⟨rfl, hq7⟩))
                | fail)
              go_ret
              exact ⟨0, rfl, .inr (.inr (.inr (.inr ⟨HBD.out, f, HFO.out, hr0, fun _ => HL0.out, rfl, hq7⟩)))⟩
end Go.Proofs.Ytaaaljpnhfmbpaa
