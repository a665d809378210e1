/- A disk in memory; the walks of New, Steps, the check of names, Append's and Sync's own functions (package disk). Conditions: those of each theorem. -/
import Derived.Test.YtaaaljpnhfmbpaaDkA
import Derived.Test.YtaaaljpnhfmbpaaMapS
import Derived.Test.YtaaaljpnhfmbpaaTx
import Derived.Test.YtaaaljpnhfmbpaaGrow
import Derived.Test.YtaaaljpnhfmbpaaZow
import Derived.Deep.RegionLaw
import Derived.Deep.DeepCutAuto
namespace Go.Proofs.Ytaaaljpnhfmbpaa
open Go.RowKit
set_option linter.unusedVariables false

theorem u8_ok : ElemOk Try.prog 5 1 1 (.int .u8 0) := elemOk (by kernel_rfl) rfl (by decide)
/-- a file of a disk -/
structure FP where
  name : ByteArray
  p : Nat
  A : Option Addr
  n : Nat
  c : Nat
  b : List UInt8
  sy : Nat
def fkv (f : FP) : KV := (f.name, .pointer (some ⟨f.p, 0, none⟩))
abbrev fcells (A : Option Addr) (n c sy : Nat) : Array Value := #[.slice A n c, .int .i64 sy]
def FRow (B : Nat) (w : World) (f : FP) : Prop := Blk w f.p 67 (fcells f.A f.n f.c f.sy) ∧ B ≤ f.p ∧ OwnZ w B 5 (.slice f.A f.n f.c) f.n (bvs f.b) ∧ f.sy ≤ f.n
def FApart (f f' : FP) : Prop := f.p ≠ f'.p ∧ ∀ k, (Value.slice f.A f.n f.c).ownBlock = some k → (Value.slice f'.A f'.n f'.c).ownBlock ≠ some k
abbrev kcells (r : Nat) (st : Int) (en : Bool) (lf : Int) : Array Value := #[.map (some r), .int .i64 st, .bool en, .int .i64 lf]
def DK (B : Nat) (w : World) (g r : Nat) (fs : List FP) (st : Int) (en : Bool) (lf : Int) : Prop :=
  Blk w g 70 (kcells r st en lf) ∧ B ≤ g ∧ B ≤ r ∧ Ms w r (fs.map fkv) ∧ (∀ f ∈ fs, FRow B w f) ∧ fs.Pairwise FApart
theorem FRow.below {B : Nat} {w w' : World} {f : FP} (h : FRow B w f) (hb : Below w.heap.size w w') : FRow B w' f :=
  ⟨h.1.below hb h.1.lt, h.2.1, zown_below h.2.2.1 hb, h.2.2.2⟩
theorem DK.below {B : Nat} {w w' : World} {g r : Nat} {fs : List FP} {st : Int} {en : Bool} {lf : Int} (h : DK B w g r fs st en lf) (hb : Below w.heap.size w w') : DK B w' g r fs st en lf :=
  ⟨h.1.below hb h.1.lt, h.2.1, h.2.2.1, h.2.2.2.1.below hb h.2.2.2.1.lt, fun f hf => (h.2.2.2.2.1 f hf).below hb, h.2.2.2.2.2⟩

theorem dnew_any (w : World) : Calls Try.prog 31 #[] w fun e w' => ∃ g r, e = .returned (.pointer (some ⟨g, 0, none⟩)) ∧ DK w.heap.size w' g r [] 0 false 0 ∧ Below w.heap.size w w' := by
  have m1 := fun w => run_makeMap_plain (P := Try.prog) w 68
  go_enter Try.func31, Try.ntmps31
  go_wp2_with fail
  go_ret
  have h2 := Blk.new (w.alloc (.map #[] 0)) 70 (kcells w.heap.size 0 false 0)
  rw [World.size_alloc] at h2
  exact ⟨_, w.heap.size, rfl, ⟨h2, by omega, Nat.le_refl _, (Ms.made w).alloc _, (fun f hf => by cases hf), .nil⟩, ((Below.refl _ w).alloc (Nat.le_refl _) _).alloc (by simp) _⟩
theorem dsteps_any {B g r : Nat} {fs : List FP} {st lf : Int} {en : Bool} (w : World) (h : DK B w g r fs st en lf) :
    Calls Try.prog 21 #[.pointer (some ⟨g, 0, none⟩)] w fun e w' => e = .returned (.int .i64 st) ∧ w = w' := by
  have c1 : w.cell? ⟨g, 1, none⟩ = some (.int .i64 st) := h.1.cell 1
  clear h
  go_enter Try.func21, Try.ntmps21
  go_wp2_with fail
  go_ret
  exact ⟨rfl, rfl⟩

theorem bad_any (s : ByteArray) (w : World) (hs : s.size ≤ 140737488351232) : Calls Try.prog 53 #[.string s] w fun e w' => e = .returned (.bool (!nameDS s)) ∧ Below w.heap.size w w' := by
  have H := hide (name_any s w hs)
  go_enter Try.func53, Try.ntmps53
  go_wp2_with (first
    | (go_at_call 10; refine H.out.mono ?_; rintro e w1 ⟨rfl, hb1⟩)
    | fail)
  go_ret
  exact ⟨rfl, hb1⟩
def badL (l : List ByteArray) : Bool := l.any fun s => !nameDS s
set_option maxHeartbeats 2000000 in
theorem index_any (A : Option Addr) (n c : Nat) (l : List ByteArray) (w : World) (hr : Reads w w.heap.size 1 A n (svs l)) (hn : n ≤ 100000) (hs : ∀ s ∈ l, s.size ≤ 140737488351232) :
    Calls Try.prog 57 #[.slice A n c, .func (.func 53) #[] #[]] w fun e w' => (∃ k : Int, e = .returned (.int .i64 k) ∧ decide (0 ≤ k) = badL l) ∧ Below w.heap.size w w' := by
  have HL := hide hr.slen
  go_enter Try.func57, Try.ntmps57
  go_wp2_with fail
  go_loopw [5, 8] (fun _ i wr => ∃ t : Nat, t ≤ n ∧ i = .int .i64 t ∧ Below w.heap.size w wr ∧ badL (l.take t) = false) (fun _ i _ => n - (intOf i).toNat)
  case atStart => exact ⟨0, by omega, rfl, Below.refl _ _, rfl⟩
  case round =>
    obtain ⟨t, ht, rfl, hbw, hfew⟩ := hrel
    have HF := hide hfew
    clear hfew
    by_cases htn : t < n
    · have htI : (t : Int) < (n : Int) := by omega
      obtain ⟨b, o, s, rfl, hb, hls, hcell⟩ := (hr.below hbw).text htn
      have hw2 : IntKind.i64.wrap ((t : Int) + 1) = (t : Int) + 1 := IntWalk.i64_in _ (by omega)
      have HT : Hid (badL (l.take (t + 1)) = (badL (l.take t) || !nameDS s)) := by show _ = _; unfold badL; rw [List.take_add_one, hls, List.any_append]; simp
      have HM := hide (List.mem_of_getElem? hls)
      have H := hide (bad_any s wr (hs s (List.mem_of_getElem? hls)))
      clear hls
      cases hx : nameDS s with
      | true =>
        rw [hx] at H HT
        clear hx
        go_wp2_with (first
          | (go_at_call 53; refine H.out.mono ?_; rintro e w1 ⟨rfl, hb1⟩; have hbw1 := hbw.trans (hb1.mono hbw.size))
          | fail)
        go_roundw
        case rel => exact ⟨t + 1, by omega, by simp, hbw1, by rw [HT.out, HF.out]; rfl⟩
        case measure => simp [intOf]; omega
      | false =>
        have HX := hide hx
        rw [hx] at H
        clear hx
        go_wp2_with (first
          | (go_at_call 53; refine H.out.mono ?_; rintro e w1 ⟨rfl, hb1⟩; have hbw1 := hbw.trans (hb1.mono hbw.size))
          | fail)
        go_ret
        refine ⟨⟨t, rfl, ?_⟩, hbw1⟩
        rw [show badL l = true from by unfold badL; rw [List.any_eq_true]; exact ⟨s, HM.out, by rw [HX.out]; rfl⟩]
        simp
    · have htI : ¬ (t : Int) < (n : Int) := by omega
      go_wp2_with fail
      go_ret
      refine ⟨⟨-1, rfl, ?_⟩, hbw⟩
      have := HF.out
      rw [List.take_of_length_le (by rw [HL.out]; omega)] at this
      rw [this]
      rfl
theorem contains_any (A : Option Addr) (n c : Nat) (l : List ByteArray) (w : World) (hr : Reads w w.heap.size 1 A n (svs l)) (hn : n ≤ 100000) (hs : ∀ s ∈ l, s.size ≤ 140737488351232) :
    Calls Try.prog 52 #[.slice A n c, .func (.func 53) #[] #[]] w fun e w' => e = .returned (.bool (badL l)) ∧ Below w.heap.size w w' := by
  have H := hide (index_any A n c l w hr hn hs)
  go_enter Try.func52, Try.ntmps52
  go_wp2_with (first
    | (go_at_call 57; go_must (refine H.out.mono ?_; rintro e w1 ⟨⟨k, rfl, hk⟩, hb1⟩; have HK := hide hk; clear hk))
    | fail)
  go_ret
  exact ⟨ret_bool HK.out, hb1⟩

set_option maxHeartbeats 2000000 in
theorem append1_any {p bb m cm n c sy : Nat} {M A : Option Addr} (w : World) (hp : Blk w p 67 (fcells A n c sy)) (hb : Blk w bb 35 #[.slice M m cm]) (hn : n ≤ 1048576) (hm : m ≤ 100000000) :
    Calls Try.prog 40 #[.pointer (some ⟨p, 0, none⟩), .pointer (some ⟨bb, 0, none⟩)] w fun e w' => e = .returned (.int .i64 (if 1048576 < n + m then 3 else 0)) ∧ ∃ k, w' = w.drewN k := by
  have c0 : w.cell? ⟨p, 0, none⟩ = some (.slice A n c) := hp.cell 0
  have c1 : w.cell? ⟨bb, 0, none⟩ = some (.slice M m cm) := hb.cell 0
  have hw : IntKind.i64.wrap (1048576 - (n : Int)) = 1048576 - (n : Int) := IntWalk.i64_in _ (by omega)
  by_cases h : 1048576 < n + m
  · have hd : decide (1048576 - (n : Int) < (m : Int)) = true := by simp; omega
    rw [if_pos h]
    clear h hp hb
    go_enter Try.func40, Try.ntmps40
    go_wp2_with fail
    go_quiet (fail)
    go_wp2_with fail
    go_ret
    exact ⟨rfl, _, rfl⟩
  · have hd : decide (1048576 - (n : Int) < (m : Int)) = false := by simp; omega
    rw [if_neg h]
    clear h hp hb
    go_enter Try.func40, Try.ntmps40
    go_wp2_with fail
    go_quiet (fail)
    go_wp2_with fail
    go_ret
    exact ⟨rfl, _, rfl⟩
theorem sync1_any {p n c sy : Nat} {A : Option Addr} (w : World) (hp : Blk w p 67 (fcells A n c sy)) :
    Calls Try.prog 39 #[.pointer (some ⟨p, 0, none⟩)] w fun e w' => e = .returned (.tuple #[]) ∧ w' = w.setCell ⟨p, 1, none⟩ (.int .i64 n) := by
  have c0 : w.cell? ⟨p, 0, none⟩ = some (.slice A n c) := hp.cell 0
  have c1 : w.cell? ⟨p, 1, none⟩ = some (.int .i64 sy) := hp.cell 1
  have f1 := hp.frozen 1
  clear hp
  go_enter Try.func39, Try.ntmps39
  go_wp2_with fail
  go_end0
  exact ⟨rfl, rfl⟩
end Go.Proofs.Ytaaaljpnhfmbpaa
