/- What Crash of a disk leaves, by its files; slices.Clone on bytes (package disk). Conditions: those of each theorem. -/
import Derived.Test.YtaaaljpnhfmbpaaDkK
namespace Go.Proofs.Ytaaaljpnhfmbpaa
open Go.RowKit Go.Shelf
set_option linter.unusedVariables false

theorem bclone_any (A : Option Addr) (n c : Nat) (l : List UInt8) (w : World) (hr : Reads w w.heap.size 1 A n (bvs l)) (hn : n ≤ 100000000) :
    Calls Try.prog 36 #[.slice A n c] w fun e w' => ∃ v, e = .returned v ∧ w'.ownsRow w.heap.size 5 1 v n (bvs l) ∧ Below w.heap.size w w' := by
  have hl := hide hr.blen
  rcases A with _ | ad
  · have h0 : n = 0 := by
      rcases Nat.eq_zero_or_pos n with h | h
      · exact h
      · obtain ⟨b, o, e, _⟩ := hr.2 h; cases e
    subst h0
    have hnil : l = [] := List.eq_nil_of_length_eq_zero hl.out
    subst hnil
    have heq : ∀ w, (binOp .eql 35 (.slice none 0 c) (.slice none 0 0)).run Try.prog w = .ok (.bool true) w := fun w => run_eql_sl_nil w _ _ none 0 c Try.underlying35
    go_enter Try.func36, Try.ntmps36
    go_wp2_with fail
    go_ret
    exact ⟨_, rfl, World.ownsRow_nil _ _ _ _, Below.refl _ _⟩
  · have heq : ∀ w, (binOp .eql 35 (.slice (some ad) n c) (.slice none 0 0)).run Try.prog w = .ok (.bool false) w := fun w => run_eql_sl_nil w _ _ (some ad) n c Try.underlying35
    have hown0 : (w.alloc (.cells #[] 5)).ownsRow w.heap.size 5 1 (.slice (some ⟨w.heap.size, 0, none⟩) 0 0) 0 [] := World.ownsRow_made w #[] 0 (Nat.le_refl _) (by decide) rfl
    have hr0 : Reads (w.alloc (.cells #[] 5)) w.heap.size 1 (some ad) n (bvs l) := hr.alloc (Nat.le_refl _) _
    go_enter Try.func36, Try.ntmps36
    go_wp2_with (first
      | (at_builtin
         refine wpList_append (by rfl) (.tmp 5) (.tmp 6) 35 (by rfl) u8_ok Try.underlying35 hown0 (by rfl) hr0 (by rfl) (bvs_one l) (by unfold maxLen; omega) (by omega) (by simp) ?_
         intro v1 w1 hown1 hb1 _ _
         rw [Nat.zero_add, List.nil_append] at hown1)
      | fail)
    go_ret
    exact ⟨_, rfl, hown1, ((Below.refl _ w).alloc (Nat.le_refl _) _).trans hb1⟩

/-- a file's name, bytes and how many are synced -/
abbrev FD := ByteArray × List UInt8 × Nat
def fdat (f : FP) : FD := (f.name, f.b, f.sy)
/-- how many bytes a crash keeps beyond those that are synced -/
def moreN (ks : List Int) (i n sy : Nat) : Nat := match ks[i]? with
  | some z => (max 0 (min z ((n : Int) - sy))).toNat
  | none => 0
def crash1 (ks : List Int) (i : Nat) (f : FD) : FD := (f.1, f.2.1.take (f.2.2 + moreN ks i f.2.1.length f.2.2), f.2.2 + moreN ks i f.2.1.length f.2.2)
def crashL (ks : List Int) (l : List FD) : List FD := l.mapIdx (crash1 ks)
theorem crashL_snoc (ks : List Int) (l : List FD) (x : FD) : crashL ks (l ++ [x]) = crashL ks l ++ [crash1 ks l.length x] := by
  unfold crashL
  rw [List.mapIdx_concat]
theorem moreN_le (ks : List Int) (i n sy : Nat) (h : sy ≤ n) : sy + moreN ks i n sy ≤ n := by
  unfold moreN
  split <;> omega
theorem moreN_some {ks : List Int} {i : Nat} {z : Int} (h : ks[i]? = some z) (n sy : Nat) : max 0 (min z ((n : Int) - sy)) = ((moreN ks i n sy : Nat) : Int) := by
  unfold moreN
  rw [h]
  simp only
  omega
theorem moreN_none {ks : List Int} {i : Nat} (h : ks[i]? = none) (n sy : Nat) : moreN ks i n sy = 0 := by
  unfold moreN
  rw [h]

theorem FRow.putObj {B : Nat} {w : World} {r : Nat} {f : FP} {kvs : List KV} (h : FRow B w f) (hm : Ms w r kvs) (o : Obj) : FRow B (w.putObj r o) f :=
  ⟨h.1.putObj hm o, h.2.1, zown_putObj h.2.2.1 hm o, h.2.2.2⟩
theorem DK.setFar {B : Nat} {w : World} {g r k i : Nat} {t : TypeId} {cs : Array Value} {fs : List FP} {st lf : Int} {en : Bool} (h : DK B w g r fs st en lf) (hk : Blk w k t cs) (h1 : t ≠ 70) (h2 : t ≠ 67) (h3 : t ≠ 5) (u : Value) : DK B (w.setCell ⟨k, i, none⟩ u) g r fs st en lf := by
  obtain ⟨a1, a2, a3, a4, a5, a6⟩ := h
  refine ⟨a1.far (p := ⟨k, i, none⟩) (fun e => hk.ne_ a1 h1 e.symm) _, a2, a3, a4.setCell (p := ⟨k, i, none⟩) (fun e => a4.ne hk e.symm) _, fun f hf => ?_, a6⟩
  obtain ⟨b1, b2, b3, b4⟩ := a5 f hf
  exact ⟨b1.far (p := ⟨k, i, none⟩) (fun e => hk.ne_ b1 h2 e.symm) _, b2, zown_far b3 (p := ⟨k, i, none⟩) (zown_not b3 hk h3) _, b4⟩
/-- a new file is put into a disk's map -/
theorem DK.put_new {B : Nat} {w : World} {g r : Nat} {fs : List FP} {st lf : Int} {en : Bool} {f : FP} {o : Obj} (h : DK B w g r fs st en lf) (hf : FRow B w f) (hnew : ∀ x ∈ fs, x.p ≠ f.p ∧ ∀ k, (Value.slice f.A f.n f.c).ownBlock = some k → (Value.slice x.A x.n x.c).ownBlock ≠ some k) (hnm : ∀ x ∈ fs, x.name ≠ f.name)
    (hm : Ms (w.putObj r o) r (putS (fs.map fkv) f.name (.pointer (some ⟨f.p, 0, none⟩)))) : DK B (w.putObj r o) g r (fs ++ [f]) st en lf := by
  have hap : ∀ x ∈ fs, FApart f x := fun x hx => ⟨fun e => (hnew x hx).1 e.symm, (hnew x hx).2⟩
  refine h.appended_new hf hap rfl (hf.putObj h.2.2.2.1 o) ?_ (fun k hk => .inl hk) ⟨by simp [World.putObj], fun k hk hkp hkr _ => World.putObj_heap_other hkr⟩
  rw [put_none _ (by
    rw [fkv_find, List.find?_eq_none.2 (fun x hx => by simpa using hnm x hx)]
    rfl)] at hm
  exact hm
set_option maxHeartbeats 1000000 in
theorem crash_leaf {w W W2 : World} {base g' r' r ib ob kb i n' c' : Nat} {A' : Option Addr} {b' : List UInt8} {fsp : List FP} {kvs : List KV} {name : ByteArray} {o : Obj} {vo vk vi : Value}
    (hd : DK w.heap.size W g' r' fsp 0 false 0) (hob : Blk W ob 28 #[vo]) (hib : Blk W ib 3 #[.int .i64 i]) (hkb : Blk W kb 42 #[vk]) (q4 : Below w.heap.size w W) (q5 : base ≤ W.heap.size) (hm : Ms W r kvs) (hrr : r ≠ r') (hrb : r' < base) (hiw : w.heap.size ≤ ib) (hW2 : Below W.heap.size W W2)
    (hown : W2.ownsRow W.heap.size 5 1 (.slice A' n' c') n' (bvs b')) (hnm : ∀ x ∈ fsp, x.name ≠ name)
    (hu : Ms ((W2.alloc (.cells #[.slice A' n' c', .int .i64 n'] 67)).putObj r' o) r' (putS (fsp.map fkv) name (.pointer (some ⟨W2.heap.size, 0, none⟩)))) {Wf : World} (hWf : Wf = ((W2.alloc (.cells #[.slice A' n' c', .int .i64 n'] 67)).putObj r' o).setCell ⟨ib, 0, none⟩ vi) :
    KeepsFrom base W Wf ∧ KeepsT r W Wf ∧ DK w.heap.size Wf g' r' (fsp ++ [⟨name, W2.heap.size, A', n', c', b', n'⟩]) 0 false 0 ∧ Blk Wf ob 28 #[vo] ∧ Blk Wf ib 3 #[vi] ∧ Blk Wf kb 42 #[vk] ∧ Below w.heap.size w Wf ∧ base ≤ Wf.heap.size := by
  subst hWf
  have hb3 : Below W.heap.size W (W2.alloc (.cells #[.slice A' n' c', .int .i64 n'] 67)) := hW2.alloc hW2.size _
  have hd3 := hd.below hb3
  have hf3 := Blk.new W2 67 #[.slice A' n' c', .int .i64 n']
  have hrow : FRow w.heap.size (W2.alloc (.cells #[.slice A' n' c', .int .i64 n'] 67)) ⟨name, W2.heap.size, A', n', c', b', n'⟩ :=
    ⟨hf3, Nat.le_trans q4.size hW2.size, zown_base (zown_of (hown.alloc _)) q4.size, Nat.le_refl _⟩
  have hd4 := hd3.put_new hrow (fun x hx => ⟨?_, fun k hk1 hk2 => ?_⟩) hnm hu
  rotate_left
  · have := (hd.2.2.2.2.1 x hx).1.lt
    have := hW2.size
    show x.p ≠ W2.heap.size
    omega
  · have h1 := (hown.lt k hk1).1
    have h2 := zown_lt (hd.2.2.2.2.1 x hx).2.2.1 hk2
    omega
  have hms := hd3.2.2.2.1
  generalize hW3 : W2.alloc (.cells #[.slice A' n' c', .int .i64 n'] 67) = W3 at *
  have hib4 : Blk (W3.putObj r' o) ib 3 #[.int .i64 i] := (hib.below hb3 hib.lt).putObj hms o
  have hk : ∀ k, k < W.heap.size → k ≠ ib → k ≠ r' → ((W3.putObj r' o).setCell ⟨ib, 0, none⟩ vi).heap[k]? = W.heap[k]? := fun k h1 h2 h3 =>
    ((Below.heap_setCell _ ⟨ib, 0, none⟩ vi k h2).trans (World.putObj_heap_other h3)).trans (hb3.block k h1)
  have hb : ∀ k t cs, Blk W k t cs → t ≠ 3 → Blk ((W3.putObj r' o).setCell ⟨ib, 0, none⟩ vi) k t cs := fun k t cs h1 h2 => (hk k h1.lt (h1.ne_ hib h2) (hd.2.2.2.1.ne h1)).trans h1
  have hsz : W.heap.size ≤ ((W3.putObj r' o).setCell ⟨ib, 0, none⟩ vi).heap.size := by
    have := hb3.size
    simp [World.putObj]
    exact this
  refine ⟨⟨hsz, fun k ob' hBk hk1 ho => ?_⟩, ⟨hsz, hk r hm.lt (fun e => hm.ne hib e.symm) hrr, fun k cs => ⟨fun h => hb k _ cs h (by decide), fun h => hb k _ cs h (by decide), fun h => hb k _ cs h (by decide)⟩⟩,
    hd4.setFar hib4 (by decide) (by decide) (by decide) _, hb _ _ _ hob (by decide), hib4.set_ 0 _, hb _ _ _ hkb (by decide), ?_, Nat.le_trans q5 hsz⟩
  · refine (hk k (Array.getElem?_eq_some_iff.1 hk1).1 (fun e => ?_) (by omega)).trans hk1
    subst e
    unfold Blk at hib
    rw [hib] at hk1
    cases hk1
    cases ho
  · have := hd.2.2.1
    exact ((q4.trans (hb3.mono q4.size)).trans (below_put this)).setCell hiw _
end Go.Proofs.Ytaaaljpnhfmbpaa
