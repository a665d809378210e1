/- The walks of front, back (package deque). Conditions: those of each theorem. -/
import Derived.Test.YtlglelgnpkdnbaaDqG
import Derived.Deep.DeepCutAuto
import Derived.Deep.RegionHeld3
import Derived.Deep.DrawnRows
namespace Go.Proofs.Ytlglelgnpkdnbaa
open Go.RowKit
set_option linter.unusedVariables false
attribute [local go_sem ↓] Go.wp_at_zero Go.wp_at_succ

/-- where a ring that is not empty lies -/
theorem DQx.form {B : Nat} {w : World} {g : Nat} {A : Option Addr} {len cap first n : Nat} {ring l : List ByteArray} (h : DQx B w g A len cap first n ring l) (hn : 0 < len) : ∃ gr, A = some ⟨gr, 0, none⟩ ∧ B ≤ gr ∧ gr < w.heap.size ∧ len ≤ cap ∧ cap ≤ maxLen := by
  obtain ⟨gr, c, e, h1, h2, h3, h4⟩ := own_form h.2.2.1 hn
  injection e with e1 e2 e3
  subst e1 e3
  exact ⟨gr, rfl, h3, h4, h1, h2⟩

set_option maxHeartbeats 2000000 in
theorem front_any {K : Nat → Prop} {B g : Nat} {l : List ByteArray} (s : ByteArray) (w : World) (h : DQK K B w g l) (hB : B ≤ w.heap.size) (h6 : l.length < 65536) :
    Calls Try.prog 41 #[.pointer (some ⟨g, 0, none⟩), .string s] w fun e w' => (∃ v, e = .returned v) ∧ DQK K B w' g (s :: l) ∧ Below B w w' ∧ SameK K w w' := by
  go_enter Try.func41, Try.ntmps41
  go_wp2_with (first
    | (go_at_call 46
       go_must (
       refine (room_any w h hB (by omega)).mono ?_
       rintro e w1 ⟨⟨v, rfl⟩, ⟨A, len, cap, first, ring, hx, hlt, hkp⟩, hb, hsm⟩))
    | fail)
  obtain ⟨gr, rfl, hgB, hgl, hcap, hcm⟩ := hx.form (by omega)
  have hne := hx.apart
  obtain ⟨hBk, hg, hown, hl, hnl, hlen, hfirst, hfl, hring⟩ := id hx
  clear hl
  generalize hl : l.length = n at *
  have hfl' : first < len := by omega
  have c0 := hBk.cell 0
  have c1 := hBk.cell 1
  have c2 := hBk.cell 2
  rw [show (dcells (some ⟨gr, 0, none⟩) len cap first n)[0]? = some (.slice (some ⟨gr, 0, none⟩) len cap) from rfl] at c0
  rw [show (dcells (some ⟨gr, 0, none⟩) len cap first n)[1]? = some (.int .i64 first) from rfl] at c1
  rw [show (dcells (some ⟨gr, 0, none⟩) len cap first n)[2]? = some (.int .i64 n) from rfl] at c2
  have hz : ¬ len = 0 := by omega
  have hw1 : IntKind.i64.wrap ((first : Int) + (len : Int)) = (first : Int) + (len : Int) := IntWalk.i64_in _ (by omega)
  have hw2 : IntKind.i64.wrap ((first : Int) + (len : Int) - 1) = (first : Int) + (len : Int) - 1 := IntWalk.i64_in _ (by omega)
  obtain ⟨q, hq⟩ : ∃ q, (first + len - 1) % len = q := ⟨_, rfl⟩
  have hql : q < len := by rw [← hq]; exact Nat.mod_lt _ (by omega)
  have hqI : ((first : Int) + (len : Int) - 1).tmod (len : Int) = (q : Int) := by
    rw [Int.tmod_eq_emod_of_nonneg (by omega), ← hq, Int.natCast_emod, show ((first + len - 1 : Nat) : Int) = (first : Int) + (len : Int) - 1 by omega]
  have hqE : ((first : Int) + (len : Int) - 1) % (len : Int) = (q : Int) := by
    rw [← hq, Int.natCast_emod, show ((first + len - 1 : Nat) : Int) = (first : Int) + (len : Int) - 1 by omega]
  have f0 := hBk.frozen 0
  have f1 := hBk.frozen 1
  have f2 := hBk.frozen 2
  go_wp2_with fail
  refine wp_region_still_tail 20 (by kernel_rfl) (by kernel_rfl) ?_
  simp only [List.take_succ_cons, List.take_zero, List.drop_succ_cons, List.drop_zero]
  repeat still_step
  refine wpStill_nil ?_
  change wpList _ _ _ _ _ w1.drew
  go_wp2_with fail
  have hsg : (Value.slice (some (⟨gr, 0, none⟩ : Addr)) len cap).ownBlock ≠ some g := by simpa [Value.ownBlock] using hne
  have hBk2 : Blk (w1.setCell ⟨g, 1, none⟩ (.int .i64 q)).drew g 57 (dcells (some ⟨gr, 0, none⟩) len cap q n) := (hBk.set_ 1 _).drew
  have hown2 : (w1.setCell ⟨g, 1, none⟩ (.int .i64 q)).drew.ownsRow B 9 1 (.slice (some ⟨gr, 0, none⟩) len cap) len (svs ring) := (own_far hown (p := ⟨g, 1, none⟩) hsg _).drew
  have hb2 : Below B w (w1.setCell ⟨g, 1, none⟩ (.int .i64 q)).drew := (hb.setCell hg _).drew
  have hkg : ∀ k, K k → k ≠ g ∧ k ≠ gr := fun k e => ⟨(hkp k e).2.1, fun e' => (hkp k e).2.2 (by rw [e']; rfl)⟩
  have hsm2 : SameK K w (w1.setCell ⟨g, 1, none⟩ (.int .i64 q)).drew := fun k e => (Below.heap_setCell w1 ⟨g, 1, none⟩ (.int .i64 q) k (by simpa using (hkg k e).1)).trans (hsm k e)
  have hkl2 : ∀ k, K k → k < (w1.setCell ⟨g, 1, none⟩ (.int .i64 q)).drew.heap.size := fun k e => by simpa using (hkp k e).1
  generalize (w1.setCell ⟨g, 1, none⟩ (.int .i64 q)).drew = w2 at *
  have hrd := Reads.of_own hown2
  have hrlen := hrd.slen
  obtain ⟨b', o', s0, e1, _, _, c4⟩ := hrd.text hql
  obtain ⟨rfl, rfl⟩ : gr = b' ∧ 0 = o' := by simpa using e1
  rw [Nat.zero_add] at c4
  have f4 := own_frozen hown2 q
  have d0 := hBk2.cell 0
  have d1 := hBk2.cell 1
  rw [show (dcells (some ⟨gr, 0, none⟩) len cap q n)[0]? = some (.slice (some ⟨gr, 0, none⟩) len cap) from rfl] at d0
  rw [show (dcells (some ⟨gr, 0, none⟩) len cap q n)[1]? = some (.int .i64 q) from rfl] at d1
  have hqI0 : (0 : Int) ≤ (q : Int) := by omega
  have hqI1 : (q : Int) < (len : Int) := by omega
  clear c0 c1 c2 f0 f1 f2 hBk hown hx h
  refine wp_region_still_tail 10 (by kernel_rfl) (by kernel_rfl) ?_
  simp only [List.take_succ_cons, List.take_zero, List.drop_succ_cons, List.drop_zero]
  repeat still_step
  refine wpStill_nil ?_
  change wpList _ _ _ _ _ w2.drew
  go_upto_region 3 with (fail)
  have hBk3 : Blk (w2.setCell ⟨gr, q, none⟩ (.string s)).drew g 57 (dcells (some ⟨gr, 0, none⟩) len cap q n) := (hBk2.far (p := ⟨gr, q, none⟩) (by simpa using Ne.symm hne) _).drew
  have hown3 : (w2.setCell ⟨gr, q, none⟩ (.string s)).drew.ownsRow B 9 1 (.slice (some ⟨gr, 0, none⟩) len cap) len ((svs ring).set q (.string s)) := (own_set hown2 hql _).drew
  have hb3 : Below B w (w2.setCell ⟨gr, q, none⟩ (.string s)).drew := (hb2.setCell hgB _).drew
  have hsm3 : SameK K w (w2.setCell ⟨gr, q, none⟩ (.string s)).drew := fun k e => (Below.heap_setCell w2 ⟨gr, q, none⟩ (.string s) k (by simpa using (hkg k e).2)).trans (hsm2 k e)
  have hkl3 : ∀ k, K k → k < (w2.setCell ⟨gr, q, none⟩ (.string s)).drew.heap.size := fun k e => by simpa using hkl2 k e
  generalize (w2.setCell ⟨gr, q, none⟩ (.string s)).drew = w3 at *
  have k2 := hBk3.cell 2
  rw [show (dcells (some ⟨gr, 0, none⟩) len cap q n)[2]? = some (.int .i64 n) from rfl] at k2
  have z2 := hBk3.frozen 2
  have hn1 : IntKind.i64.wrap ((n : Int) + 1) = (n : Int) + 1 := IntWalk.i64_in _ (by omega)
  clear c4 f4 d0 d1 hBk2 hown2
  go_wp2_with fail
  go_end0
  have e1' : Value.int .i64 ((n : Int) + 1) = .int .i64 ((n + 1 : Nat) : Int) := by simp
  rw [e1']
  have hB4 : Blk (w3.setCell ⟨g, 2, none⟩ (.int .i64 ((n + 1 : Nat) : Int))) g 57 (dcells (some ⟨gr, 0, none⟩) len cap q (n + 1)) := hBk3.set_ 2 _
  have hown4 := own_far hown3 (p := ⟨g, 2, none⟩) hsg (.int .i64 ((n + 1 : Nat) : Int))
  rw [svs_set] at hown4
  refine ⟨⟨_, rfl⟩, ⟨some ⟨gr, 0, none⟩, len, cap, q, ring.set q s, ?_, fun k e => ⟨by simpa using hkl3 k e, (hkp k e).2⟩⟩, hb3.setCell hg _, fun k e => (Below.heap_setCell w3 ⟨g, 2, none⟩ (.int .i64 ((n + 1 : Nat) : Int)) k (by simpa using (hkg k e).1)).trans (hsm3 k e)⟩
  rw [show (s :: l).length = n + 1 by simp [hl]]
  refine ⟨hB4, hg, hown4, by simp [hl], by omega, hlen, by omega, .inl (by omega), ?_⟩
  have hrr := front_ring (s := s) hl hrlen (by omega) hfl' hring
  rw [hq] at hrr
  exact hrr

set_option maxHeartbeats 2000000 in
theorem back_any {K : Nat → Prop} {B g : Nat} {l : List ByteArray} (s : ByteArray) (w : World) (h : DQK K B w g l) (hB : B ≤ w.heap.size) (h6 : l.length < 65536) :
    Calls Try.prog 42 #[.pointer (some ⟨g, 0, none⟩), .string s] w fun e w' => (∃ v, e = .returned v) ∧ DQK K B w' g (l ++ [s]) ∧ Below B w w' ∧ SameK K w w' := by
  go_enter Try.func42, Try.ntmps42
  go_wp2_with (first
    | (go_at_call 46
       go_must (
       refine (room_any w h hB (by omega)).mono ?_
       rintro e w1 ⟨⟨v, rfl⟩, ⟨A, len, cap, first, ring, hx, hlt, hkp⟩, hb, hsm⟩))
    | fail)
  obtain ⟨gr, rfl, hgB, hgl, hcap, hcm⟩ := hx.form (by omega)
  have hne := hx.apart
  obtain ⟨hBk2, hg, hown2, hl, hnl, hlen, hfirst, hfl, hring⟩ := id hx
  clear hl
  generalize hl : l.length = n at *
  have hfl' : first < len := by omega
  have d0 := hBk2.cell 0
  have d2 := hBk2.cell 2
  rw [show (dcells (some ⟨gr, 0, none⟩) len cap first n)[0]? = some (.slice (some ⟨gr, 0, none⟩) len cap) from rfl] at d0
  rw [show (dcells (some ⟨gr, 0, none⟩) len cap first n)[2]? = some (.int .i64 n) from rfl] at d2
  have hsg : (Value.slice (some (⟨gr, 0, none⟩ : Addr)) len cap).ownBlock ≠ some g := by simpa [Value.ownBlock] using hne
  have hat := at_any g (some ⟨gr, 0, none⟩) len cap first n n w1.drew hBk2 (by omega) hlen hfirst (by omega)
  obtain ⟨q, hq⟩ : ∃ q, (first + n) % len = q := ⟨_, rfl⟩
  have hql : q < len := by rw [← hq]; exact Nat.mod_lt _ (by omega)
  rw [hq] at hat
  have hrd := Reads.of_own hown2
  have hrlen := hrd.slen
  obtain ⟨b', o', s0, e1, _, _, c4⟩ := hrd.text hql
  obtain ⟨rfl, rfl⟩ : gr = b' ∧ 0 = o' := by simpa using e1
  rw [Nat.zero_add] at c4
  have f4 := own_frozen hown2 q
  have hqI0 : (0 : Int) ≤ (q : Int) := by omega
  have hqI1 : (q : Int) < (len : Int) := by omega
  have hne' : ¬ g = gr := fun e => hne e.symm
  have hlt1 : g < w1.heap.size := hBk2.lt
  go_wp2_with fail
  go_region_held3? (fun w' => w'.cell? ⟨g, 0, none⟩ = some (.slice (some ⟨gr, 0, none⟩) len cap) ∧ w'.cell? ⟨g, 2, none⟩ = some (.int .i64 n)) (go_keep)
    (first
      | (go_at_call 33
         go_must (
         refine hat.mono ?_
         rintro e w2 ⟨rfl, m2, hw2⟩
         have hBk2' : Blk w2 g 57 (dcells (some ⟨gr, 0, none⟩) len cap first n) := by rw [hw2]; exact hBk2
         have hown2' : w2.ownsRow B 9 1 (.slice (some ⟨gr, 0, none⟩) len cap) len (svs ring) := by rw [hw2]; exact hown2
         have hb2 : Below B w w2 := by rw [hw2]; exact ⟨hb.os, hb.tape, hb.output, hb.size, hb.block⟩
         have hsm2 : SameK K w w2 := by rw [hw2]; exact hsm
         have hkl2 : ∀ k, K k → k < w2.heap.size := by rw [hw2]; exact fun k e => (hkp k e).1
         have k0 : w2.cell? ⟨g, 0, none⟩ = some (.slice (some ⟨gr, 0, none⟩) len cap) := by rw [hw2]; exact d0
         have k2 : w2.cell? ⟨g, 2, none⟩ = some (.int .i64 n) := by rw [hw2]; exact d2
         have k4 : w2.cell? ⟨gr, q, none⟩ = some (.string s0) := by rw [hw2]; exact c4
         have k5 : w2.frozen? ⟨gr, q, none⟩ = false := by rw [hw2]; exact f4
         clear hw2)))
  go_upto_region 2 with (fail)
  have hBk3 : Blk (w2.setCell ⟨gr, q, none⟩ (.string s)) g 57 (dcells (some ⟨gr, 0, none⟩) len cap first n) := (hBk2'.far (p := ⟨gr, q, none⟩) (by simpa using hne') _)
  have hown3 : (w2.setCell ⟨gr, q, none⟩ (.string s)).ownsRow B 9 1 (.slice (some ⟨gr, 0, none⟩) len cap) len ((svs ring).set q (.string s)) := (own_set hown2' hql _)
  have hb3 : Below B w (w2.setCell ⟨gr, q, none⟩ (.string s)) := (hb2.setCell hgB _)
  have hkg : ∀ k, K k → k ≠ g ∧ k ≠ gr := fun k e => ⟨(hkp k e).2.1, fun e' => (hkp k e).2.2 (by rw [e']; rfl)⟩
  have hsm3 : SameK K w (w2.setCell ⟨gr, q, none⟩ (.string s)) := fun k e => (Below.heap_setCell w2 ⟨gr, q, none⟩ (.string s) k (by simpa using (hkg k e).2)).trans (hsm2 k e)
  have hkl3 : ∀ k, K k → k < (w2.setCell ⟨gr, q, none⟩ (.string s)).heap.size := fun k e => by simpa using hkl2 k e
  generalize (w2.setCell ⟨gr, q, none⟩ (.string s)) = w3 at *
  clear k2
  have k2 := hBk3.cell 2
  rw [show (dcells (some ⟨gr, 0, none⟩) len cap first n)[2]? = some (.int .i64 n) from rfl] at k2
  have z2 := hBk3.frozen 2
  have hn1 : IntKind.i64.wrap ((n : Int) + 1) = (n : Int) + 1 := IntWalk.i64_in _ (by omega)
  clear k0 k4 k5
  go_wp2_with fail
  go_end0
  have e1' : Value.int .i64 ((n : Int) + 1) = .int .i64 ((n + 1 : Nat) : Int) := by simp
  rw [e1']
  have hB4 : Blk (w3.setCell ⟨g, 2, none⟩ (.int .i64 ((n + 1 : Nat) : Int))) g 57 (dcells (some ⟨gr, 0, none⟩) len cap first (n + 1)) := hBk3.set_ 2 _
  have hown4 := own_far hown3 (p := ⟨g, 2, none⟩) hsg (.int .i64 ((n + 1 : Nat) : Int))
  rw [svs_set] at hown4
  refine ⟨⟨_, rfl⟩, ⟨some ⟨gr, 0, none⟩, len, cap, first, ring.set q s, ?_, fun k e => ⟨by simpa using hkl3 k e, (hkp k e).2⟩⟩, hb3.setCell hg _, fun k e => (Below.heap_setCell w3 ⟨g, 2, none⟩ (.int .i64 ((n + 1 : Nat) : Int)) k (by simpa using (hkg k e).1)).trans (hsm3 k e)⟩
  rw [show (l ++ [s]).length = n + 1 by simp [hl]]
  refine ⟨hB4, hg, hown4, by simp [hl], by omega, hlen, by omega, .inl (by omega), ?_⟩
  have hrr := back_ring (s := s) hl hrlen (by omega) hfl' hring
  rw [hq] at hrr
  exact hrr
end Go.Proofs.Ytlglelgnpkdnbaa
