/- The walks of PopFront, PopBack (package deque). Conditions: those of each theorem. -/
import Derived.Test.YtlglelgnpkdnbaaDqI
namespace Go.Proofs.Ytlglelgnpkdnbaa
open Go.RowKit
set_option linter.unusedVariables false
attribute [local go_sem ↓] Go.wp_at_zero Go.wp_at_succ

theorem popf_ring {len first n : Nat} {ring l : List ByteArray} {s : ByteArray} (hl : l.length = n) (hr : ring.length = len) (h0 : 0 < n) (hn : n ≤ len) (hf : first < len) (h : ∀ i, i < n → ring[(first + i) % len]? = l[i]?) :
    ∀ i, i < n - 1 → (ring.set first s)[((first + 1) % len + i) % len]? = l.tail[i]? := by
  intro i hi
  have e1 : ((first + 1) % len + i) % len = (first + (i + 1)) % len := by
    rw [mod_two (x := first + 1) (by omega), mod_two (by split <;> omega), mod_two (x := first + (i + 1)) (by omega)]
    split <;> split <;> split <;> omega
  have hne : first ≠ (first + (i + 1)) % len := by
    rw [mod_two (by omega)]
    split <;> omega
  rw [e1, List.getElem?_set_ne hne, h (i + 1) (by omega), List.getElem?_tail]
theorem popb_ring {len first n : Nat} {ring l : List ByteArray} {s : ByteArray} (hl : l.length = n) (hr : ring.length = len) (h0 : 0 < n) (hn : n ≤ len) (hf : first < len) (h : ∀ i, i < n → ring[(first + i) % len]? = l[i]?) :
    ∀ i, i < n - 1 → (ring.set ((first + (n - 1)) % len) s)[(first + i) % len]? = l.dropLast[i]? := by
  intro i hi
  have hne : (first + (n - 1)) % len ≠ (first + i) % len := by
    rw [mod_two (by omega), mod_two (x := first + i) (by omega)]
    split <;> split <;> omega
  rw [List.getElem?_set_ne hne, h i (by omega), List.getElem?_dropLast, if_pos (by omega)]

theorem popFront_none {B g : Nat} (w : World) (h : DQ B w g []) :
    Calls Try.prog 16 #[.pointer (some ⟨g, 0, none⟩)] w fun e w' => e = .returned (.tuple #[.string ⟨#[]⟩, .bool false]) ∧ w = w' := by
  obtain ⟨A, len, cap, first, ring, hx⟩ := h
  have hBk := hx.1
  rw [List.length_nil] at hBk
  go_enter Try.func16, Try.ntmps16
  go_wp2_with (first
    | (go_at_call 21; refine (len_any g _ _ 0 w hBk).mono ?_; rintro e w1 ⟨rfl, rfl⟩)
    | fail)
  go_ret2
  exact ⟨rfl, rfl⟩
theorem popBack_none {B g : Nat} (w : World) (h : DQ B w g []) :
    Calls Try.prog 17 #[.pointer (some ⟨g, 0, none⟩)] w fun e w' => e = .returned (.tuple #[.string ⟨#[]⟩, .bool false]) ∧ w = w' := by
  obtain ⟨A, len, cap, first, ring, hx⟩ := h
  have hBk := hx.1
  rw [List.length_nil] at hBk
  go_enter Try.func17, Try.ntmps17
  go_wp2_with (first
    | (go_at_call 21; refine (len_any g _ _ 0 w hBk).mono ?_; rintro e w1 ⟨rfl, rfl⟩)
    | fail)
  go_ret2
  exact ⟨rfl, rfl⟩

set_option maxHeartbeats 2000000 in
theorem popFront_any {B g : Nat} {l : List ByteArray} (s : ByteArray) (r : List ByteArray) (w : World) (h : DQ B w g l) (hlr : l = s :: r) :
    Calls Try.prog 16 #[.pointer (some ⟨g, 0, none⟩)] w fun e w' => e = .returned (.tuple #[.string s, .bool true]) ∧ DQ B w' g r ∧ Below B w w' := by
  obtain ⟨A, len, cap, first, ring, hx⟩ := h
  have hn0 : 0 < l.length := by rw [hlr]; simp
  have hrl : r.length = l.length - 1 := by rw [hlr]; simp
  obtain ⟨gr, rfl, hgB, hgl, hcap, hcm⟩ := hx.form (by have := hx.2.2.2.2.1; omega)
  have hne := hx.apart
  obtain ⟨hBk, hg, hown, hl, hnl, hlen, hfirst, hfl, hring⟩ := id hx
  clear hl
  generalize hl : l.length = n at *
  have hfl' : first < len := by omega
  have c0 := hBk.cell 0
  have c1 := hBk.cell 1
  rw [show (dcells (some ⟨gr, 0, none⟩) len cap first n)[0]? = some (.slice (some ⟨gr, 0, none⟩) len cap) from rfl] at c0
  rw [show (dcells (some ⟨gr, 0, none⟩) len cap first n)[1]? = some (.int .i64 first) from rfl] at c1
  have hsg : (Value.slice (some (⟨gr, 0, none⟩ : Addr)) len cap).ownBlock ≠ some g := by simpa [Value.ownBlock] using hne
  have hrd := Reads.of_own hown
  have hrlen := hrd.slen
  obtain ⟨b', o', s0, e1, _, hs0, c4⟩ := hrd.text hfl'
  obtain ⟨rfl, rfl⟩ : gr = b' ∧ 0 = o' := by simpa using e1
  rw [Nat.zero_add] at c4
  have hs0' : s0 = s := by
    have := hring 0 (by omega)
    rw [Nat.add_zero, Nat.mod_eq_of_lt hfl', hs0, hlr] at this
    simpa using this
  subst hs0'
  have f4 := own_frozen hown first
  have hqI0 : (0 : Int) ≤ (first : Int) := by omega
  have hqI1 : (first : Int) < (len : Int) := by omega
  have hnz : ((n : Int) == 0) = false := by simp; omega
  have hne' : ¬ g = gr := fun e => hne e.symm
  go_enter Try.func16, Try.ntmps16
  go_wp2_with (first
    | (go_at_call 21; refine (len_any g _ _ n w hBk).mono ?_; rintro e w1 ⟨rfl, rfl⟩)
    | fail)
  go_quiet (fail)
  have hBk1 : Blk (w.drewN nq) g 57 (dcells (some ⟨gr, 0, none⟩) len cap first n) := hBk
  have hown1 : (w.drewN nq).ownsRow B 9 1 (.slice (some ⟨gr, 0, none⟩) len cap) len (svs ring) := hown
  have d0 : (w.drewN nq).cell? ⟨g, 0, none⟩ = some (.slice (some ⟨gr, 0, none⟩) len cap) := c0
  have d1 : (w.drewN nq).cell? ⟨g, 1, none⟩ = some (.int .i64 first) := c1
  have d4 : (w.drewN nq).cell? ⟨gr, first, none⟩ = some (.string s0) := c4
  have f4' : (w.drewN nq).frozen? ⟨gr, first, none⟩ = false := f4
  have hb1 : Below B w (w.drewN nq) := below_drewN (Below.refl _ _) _
  generalize w.drewN nq = w1 at *
  clear c0 c1 c4 f4
  go_wp2_with fail
  refine wp_region_still_tail 9 (by kernel_rfl) (by kernel_rfl) ?_
  simp only [List.take_succ_cons, List.take_zero, List.drop_succ_cons, List.drop_zero]
  repeat still_step
  refine wpStill_nil ?_
  change wpList _ _ _ _ _ w1.drew
  go_upto_region 5 with (fail)
  have hBk2 : Blk (w1.setCell ⟨gr, first, none⟩ (.string ⟨#[]⟩)).drew g 57 (dcells (some ⟨gr, 0, none⟩) len cap first n) := (hBk1.far (p := ⟨gr, first, none⟩) (by simpa using hne') _).drew
  have hown2 : (w1.setCell ⟨gr, first, none⟩ (.string ⟨#[]⟩)).drew.ownsRow B 9 1 (.slice (some ⟨gr, 0, none⟩) len cap) len ((svs ring).set first (.string ⟨#[]⟩)) := (own_set hown1 hfl' _).drew
  have hb2 : Below B w (w1.setCell ⟨gr, first, none⟩ (.string ⟨#[]⟩)).drew := (hb1.setCell hgB _).drew
  generalize (w1.setCell ⟨gr, first, none⟩ (.string ⟨#[]⟩)).drew = w2 at *
  clear d0 d1 d4 f4' hBk1 hown1
  have hat := at_any g (some ⟨gr, 0, none⟩) len cap first n 1 w2 hBk2 (by omega) hlen hfirst (by omega)
  obtain ⟨q, hq⟩ : ∃ q, (first + 1) % len = q := ⟨_, rfl⟩
  have hql : q < len := by rw [← hq]; exact Nat.mod_lt _ (by omega)
  rw [hq] at hat
  have hwn : IntKind.i64.wrap ((n : Int) - 1) = (n : Int) - 1 := IntWalk.i64_in _ (by omega)
  go_wp2_with (first
    | (go_at_call 33
       go_must (
       refine hat.mono ?_
       rintro e w3 ⟨rfl, m2, hw3⟩
       have hBk3 : Blk w3 g 57 (dcells (some ⟨gr, 0, none⟩) len cap first n) := by rw [hw3]; exact hBk2
       have hown3 : w3.ownsRow B 9 1 (.slice (some ⟨gr, 0, none⟩) len cap) len ((svs ring).set first (.string ⟨#[]⟩)) := by rw [hw3]; exact hown2
       have hb3 : Below B w w3 := by rw [hw3]; exact ⟨hb2.os, hb2.tape, hb2.output, hb2.size, hb2.block⟩
       clear hw3
       have k1 := hBk3.cell 1
       rw [show (dcells (some ⟨gr, 0, none⟩) len cap first n)[1]? = some (.int .i64 first) from rfl] at k1
       have z1 := hBk3.frozen 1
       have k2 := hBk3.cell 2
       rw [show (dcells (some ⟨gr, 0, none⟩) len cap first n)[2]? = some (.int .i64 n) from rfl] at k2
       have z2 := hBk3.frozen 2))
    | fail)
  go_ret2
  have e1' : Value.int .i64 ((n : Int) - 1) = .int .i64 ((n - 1 : Nat) : Int) := by rw [show ((n - 1 : Nat) : Int) = (n : Int) - 1 by omega]
  rw [e1']
  have hB4 : Blk ((w3.setCell ⟨g, 1, none⟩ (.int .i64 q)).setCell ⟨g, 2, none⟩ (.int .i64 ((n - 1 : Nat) : Int))) g 57 (dcells (some ⟨gr, 0, none⟩) len cap q (n - 1)) := (hBk3.set_ 1 _).set_ 2 _
  have hown4 := own_far (own_far hown3 (p := ⟨g, 1, none⟩) hsg (.int .i64 q)) (p := ⟨g, 2, none⟩) hsg (.int .i64 ((n - 1 : Nat) : Int))
  rw [svs_set] at hown4
  refine ⟨rfl, ⟨some ⟨gr, 0, none⟩, len, cap, q, ring.set first ⟨#[]⟩, ?_⟩, (hb3.setCell hg _).setCell hg _⟩
  rw [hrl]
  refine ⟨hB4, hg, hown4, hrl, by omega, hlen, by omega, .inl (by omega), ?_⟩
  have hrr := popf_ring (s := ⟨#[]⟩) hl hrlen hn0 hnl hfl' hring
  rw [hq, hlr] at hrr
  exact hrr

set_option maxHeartbeats 2000000 in
theorem popBack_any {B g : Nat} {l : List ByteArray} (s : ByteArray) (r : List ByteArray) (w : World) (h : DQ B w g l) (hlr : l = r ++ [s]) :
    Calls Try.prog 17 #[.pointer (some ⟨g, 0, none⟩)] w fun e w' => e = .returned (.tuple #[.string s, .bool true]) ∧ DQ B w' g r ∧ Below B w w' := by
  obtain ⟨A, len, cap, first, ring, hx⟩ := h
  have hn0 : 0 < l.length := by rw [hlr]; simp
  have hrl : r.length = l.length - 1 := by rw [hlr]; simp
  obtain ⟨gr, rfl, hgB, hgl, hcap, hcm⟩ := hx.form (by have := hx.2.2.2.2.1; omega)
  have hne := hx.apart
  obtain ⟨hBk, hg, hown, hl, hnl, hlen, hfirst, hfl, hring⟩ := id hx
  clear hl
  generalize hl : l.length = n at *
  have hfl' : first < len := by omega
  have c2 := hBk.cell 2
  rw [show (dcells (some ⟨gr, 0, none⟩) len cap first n)[2]? = some (.int .i64 n) from rfl] at c2
  have f2 := hBk.frozen 2
  have hsg : (Value.slice (some (⟨gr, 0, none⟩ : Addr)) len cap).ownBlock ≠ some g := by simpa [Value.ownBlock] using hne
  obtain ⟨q, hq⟩ : ∃ q, (first + (n - 1)) % len = q := ⟨_, rfl⟩
  have hql : q < len := by rw [← hq]; exact Nat.mod_lt _ (by omega)
  have hqI0 : (0 : Int) ≤ (q : Int) := by omega
  have hqI1 : (q : Int) < (len : Int) := by omega
  have hnz : ((n : Int) == 0) = false := by simp; omega
  have hne' : ¬ g = gr := fun e => hne e.symm
  have hwn : IntKind.i64.wrap ((n : Int) - 1) = ((n - 1 : Nat) : Int) := by rw [IntKind.wrap_i64]; omega
  have HB : Hid (Blk (w.setCell ⟨g, 2, none⟩ (.int .i64 ((n - 1 : Nat) : Int))) g 57 (dcells (some ⟨gr, 0, none⟩) len cap first (n - 1))) := hBk.set_ 2 _
  have HO : Hid ((w.setCell ⟨g, 2, none⟩ (.int .i64 ((n - 1 : Nat) : Int))).ownsRow B 9 1 (.slice (some ⟨gr, 0, none⟩) len cap) len (svs ring)) := own_far hown (p := ⟨g, 2, none⟩) hsg _
  have HW : Hid (Below B w (w.setCell ⟨g, 2, none⟩ (.int .i64 ((n - 1 : Nat) : Int)))) := (Below.refl _ _).setCell hg _
  go_enter Try.func17, Try.ntmps17
  go_wp2_with (first
    | (go_at_call 21; refine (len_any g _ _ n w hBk).mono ?_; rintro e w1 ⟨rfl, rfl⟩)
    | fail)
  generalize w.setCell ⟨g, 2, none⟩ (.int .i64 ((n - 1 : Nat) : Int)) = w1 at *
  have hBk1 := HB.out
  have hown1 := HO.out
  have hb1 := HW.out
  generalize hn' : n - 1 = n' at *
  have hrd := Reads.of_own hown1
  have hrlen := hrd.slen
  obtain ⟨b', o', s0, e1, _, hs0, c4⟩ := hrd.text hql
  obtain ⟨rfl, rfl⟩ : gr = b' ∧ 0 = o' := by simpa using e1
  rw [Nat.zero_add] at c4
  have hs0' : s0 = s := by
    have h1 := hring n' (by omega)
    rw [hq, hs0, hlr] at h1
    have h2 : (r ++ [s])[n']? = some s := by rw [← hrl, List.getElem?_concat_length]
    rw [h2] at h1
    simpa using h1
  subst hs0'
  have f4 := own_frozen hown1 q
  have d0 := hBk1.cell 0
  have d2 := hBk1.cell 2
  rw [show (dcells (some ⟨gr, 0, none⟩) len cap first n')[0]? = some (.slice (some ⟨gr, 0, none⟩) len cap) from rfl] at d0
  rw [show (dcells (some ⟨gr, 0, none⟩) len cap first n')[2]? = some (.int .i64 n') from rfl] at d2
  have hat := at_any g (some ⟨gr, 0, none⟩) len cap first n' n' w1.drew hBk1 (by omega) hlen hfirst (by omega)
  rw [hq] at hat
  have hlt1 : g < w1.heap.size := hBk1.lt
  clear c2 f2 HB HO HW hwn
  go_region_held3 (fun w' => w'.cell? ⟨g, 0, none⟩ = some (.slice (some ⟨gr, 0, none⟩) len cap) ∧ w'.cell? ⟨g, 2, none⟩ = some (.int .i64 n') ∧ w'.cell? ⟨gr, q, none⟩ = some (.string s0)) (go_keep)
    (first
      | (go_at_call 33
         go_must (
         refine hat.mono ?_
         rintro e w2 ⟨rfl, m2, hw2⟩
         have hBk2 : Blk w2 g 57 (dcells (some ⟨gr, 0, none⟩) len cap first n') := by rw [hw2]; exact hBk1
         have hown2 : w2.ownsRow B 9 1 (.slice (some ⟨gr, 0, none⟩) len cap) len (svs ring) := by rw [hw2]; exact hown1
         have hb2 : Below B w w2 := by rw [hw2]; exact ⟨hb1.os, hb1.tape, hb1.output, hb1.size, hb1.block⟩
         have k0 : w2.cell? ⟨g, 0, none⟩ = some (.slice (some ⟨gr, 0, none⟩) len cap) := by rw [hw2]; exact d0
         have k2 : w2.cell? ⟨g, 2, none⟩ = some (.int .i64 n') := by rw [hw2]; exact d2
         have k4 : w2.cell? ⟨gr, q, none⟩ = some (.string s0) := by rw [hw2]; exact c4
         have k5 : w2.frozen? ⟨gr, q, none⟩ = false := by rw [hw2]; exact f4
         clear hw2)))
  go_upto_region 5 with (fail)
  clear hat d0 d2 c4 f4 hBk1 hown1 hrd
  have hat2 := at_any g (some ⟨gr, 0, none⟩) len cap first n' n' w2.drew hBk2 (by omega) hlen hfirst (by omega)
  rw [hq] at hat2
  have hlt2 : g < w2.heap.size := hBk2.lt
  go_region_held3 (fun w' => w'.cell? ⟨g, 0, none⟩ = some (.slice (some ⟨gr, 0, none⟩) len cap) ∧ w'.cell? ⟨g, 2, none⟩ = some (.int .i64 n')) (go_keep)
    (first
      | (go_at_call 33
         go_must (
         refine hat2.mono ?_
         rintro e w3 ⟨rfl, m3, hw3⟩
         have hBk3 : Blk w3 g 57 (dcells (some ⟨gr, 0, none⟩) len cap first n') := by rw [hw3]; exact hBk2
         have hown3 : w3.ownsRow B 9 1 (.slice (some ⟨gr, 0, none⟩) len cap) len (svs ring) := by rw [hw3]; exact hown2
         have hb3 : Below B w w3 := by rw [hw3]; exact ⟨hb2.os, hb2.tape, hb2.output, hb2.size, hb2.block⟩
         have l0 : w3.cell? ⟨g, 0, none⟩ = some (.slice (some ⟨gr, 0, none⟩) len cap) := by rw [hw3]; exact k0
         have l2 : w3.cell? ⟨g, 2, none⟩ = some (.int .i64 n') := by rw [hw3]; exact k2
         have l4 : w3.cell? ⟨gr, q, none⟩ = some (.string s0) := by rw [hw3]; exact k4
         have l5 : w3.frozen? ⟨gr, q, none⟩ = false := by rw [hw3]; exact k5
         clear hw3)))
  go_wp2_with fail
  go_ret2
  have hB4 : Blk (w3.setCell ⟨gr, q, none⟩ (.string ⟨#[]⟩)) g 57 (dcells (some ⟨gr, 0, none⟩) len cap first n') := hBk3.far (p := ⟨gr, q, none⟩) (by simpa using hne') _
  have hown4 := own_set hown3 hql (.string ⟨#[]⟩)
  rw [svs_set] at hown4
  refine ⟨rfl, ⟨some ⟨gr, 0, none⟩, len, cap, first, ring.set q ⟨#[]⟩, ?_⟩, hb3.setCell hgB _⟩
  rw [hrl]
  refine ⟨hB4, hg, hown4, hrl, by omega, hlen, hfirst, .inl (by omega), ?_⟩
  have hrr := popb_ring (s := ⟨#[]⟩) hl hrlen hn0 hnl hfl' hring
  rw [hn', hq, hlr, List.dropLast_concat] at hrr
  exact hrr
end Go.Proofs.Ytlglelgnpkdnbaa
