/- The walks of At, Put (package deque), Range (package taborref06). Conditions: those of each theorem. -/
import Derived.Test.YtlglelgnpkdnbaaDqZ
import Derived.Test.YtlglelgnpkdnbaaDqLawA
namespace Go.Proofs.Ytlglelgnpkdnbaa
open Go.RowKit
set_option linter.unusedVariables false
attribute [local go_sem ↓] Go.wp_at_zero Go.wp_at_succ

theorem at_none {B g : Nat} {l : List ByteArray} (w : World) (h : DQ B w g l) (hl6 : l.length ≤ 65536) (a : Int) (ha : I64 a) (hok : placeOk l.length a = false) :
    Calls Try.prog 22 #[.pointer (some ⟨g, 0, none⟩), .int .i64 a] w fun e w' => e = .returned (.tuple #[.string ⟨#[]⟩, .bool false]) ∧ w = w' := by
  obtain ⟨A, len, cap, first, ring, hx⟩ := h
  have hBk := hx.1
  have hpl := place_any l.length a ⟨by omega, by omega⟩ ha
  rw [hok] at hpl
  clear hok
  generalize l.length = n at *
  generalize placeA n a = pa at *
  clear hx
  go_enter Try.func22, Try.ntmps22
  go_wp2_with (first
    | (go_at_call 21; refine (len_any g _ _ n w hBk).mono ?_; rintro e w1 ⟨rfl, rfl⟩)
    | (go_at_call 12; refine (hpl _).mono ?_; rintro e w1 ⟨rfl, rfl⟩)
    | fail)
  go_ret2
  exact ⟨rfl, rfl⟩

theorem at_some {B g : Nat} {l : List ByteArray} (w : World) (h : DQ B w g l) (hl6 : l.length ≤ 65536) (a : Int) (ha : I64 a) (p : Nat) (s : ByteArray) (hp : placeA l.length a = p) (hok : placeOk l.length a = true) (hs : l[p]? = some s) :
    Calls Try.prog 22 #[.pointer (some ⟨g, 0, none⟩), .int .i64 a] w fun e w' => e = .returned (.tuple #[.string s, .bool true]) ∧ Below w.heap.size w w' := by
  have hpn := (List.getElem?_eq_some_iff.1 hs).1
  obtain ⟨A, len, cap, first, ring, hx⟩ := h
  obtain ⟨gr, rfl, hgB, hgl, hcap, hcm⟩ := hx.form (by have := hx.2.2.2.2.1; omega)
  obtain ⟨hBk, hg, hown, hl, hnl, hlen, hfirst, hfl, hring⟩ := id hx
  clear hl
  have hpl := place_any l.length a ⟨by omega, by omega⟩ ha
  rw [hok, hp] at hpl
  clear hok hp
  generalize hl : l.length = n at *
  have hfl' : first < len := by omega
  have c0 := hBk.cell 0
  rw [show (dcells (some ⟨gr, 0, none⟩) len cap first n)[0]? = some (.slice (some ⟨gr, 0, none⟩) len cap) from rfl] at c0
  obtain ⟨q, hq⟩ : ∃ q, (first + p) % len = q := ⟨_, rfl⟩
  have hql : q < len := by rw [← hq]; exact Nat.mod_lt _ (by omega)
  have hrd := Reads.of_own hown
  obtain ⟨b', o', s0, e1, _, hs0, c4⟩ := hrd.text hql
  obtain ⟨rfl, rfl⟩ : gr = b' ∧ 0 = o' := by simpa using e1
  rw [Nat.zero_add] at c4
  have hs0' : s0 = s := by
    have h1 := hring p (by omega)
    rw [hq, hs0, hs] at h1
    simpa using h1
  subst hs0'
  have hqI0 : (0 : Int) ≤ (q : Int) := by omega
  have hqI1 : (q : Int) < (len : Int) := by omega
  have hat : ∀ m, Calls Try.prog 33 #[.pointer (some ⟨g, 0, none⟩), .int .i64 p] (w.drewN m) fun e w' => e = .returned (.int .i64 q) ∧ ∃ m', w' = (w.drewN m).drewN m' := fun m => by
    have := at_any g (some ⟨gr, 0, none⟩) len cap first n p (w.drewN m) (hBk.drewN m) (by omega) hlen hfirst (by omega)
    rw [hq] at this
    exact this
  have HAT := hide hat
  clear hat hq hl hx hring hs hs0 hrd e1 hown
  go_enter Try.func22, Try.ntmps22
  go_wp2_with (first
    | (go_at_call 21; refine (len_any g _ _ n w hBk).mono ?_; rintro e w1 ⟨rfl, rfl⟩)
    | (go_at_call 12; refine (hpl _).mono ?_; rintro e w1 ⟨rfl, rfl⟩)
    | fail)
  go_quiet ((go_at_call 33; exact Calls.quiet_of (HAT.out _)))
  go_wp2_with fail
  go_ret2
  exact ⟨rfl, below_drewN (Below.refl _ _) _⟩

/-- behind Put: the ring, by its indices -/
theorem put_ring {len first n p : Nat} {ring l : List ByteArray} {s : ByteArray} (hl : l.length = n) (hr : ring.length = len) (hp : p < n) (hn : n ≤ len) (hf : first < len) (h : ∀ i, i < n → ring[(first + i) % len]? = l[i]?) :
    ∀ i, i < n → (ring.set ((first + p) % len) s)[(first + i) % len]? = (l.set p s)[i]? := by
  intro i hi
  have hlt : (first + p) % len < len := Nat.mod_lt _ (by omega)
  by_cases hip : i = p
  · subst hip
    rw [List.getElem?_set_self (by omega), List.getElem?_set_self (by omega)]
  · have hne : (first + p) % len ≠ (first + i) % len := by
      rw [mod_two (x := first + i) (by omega), mod_two (by omega)]
      split <;> split <;> omega
    rw [List.getElem?_set_ne hne, List.getElem?_set_ne (Ne.symm hip), h i hi]

theorem put_none {B g : Nat} {l : List ByteArray} (w : World) (h : DQ B w g l) (hl6 : l.length ≤ 65536) (a : Int) (ha : I64 a) (hok : placeOk l.length a = false) (t : ByteArray) (ht : t.size ≤ 1048576) :
    Calls Try.prog 26 #[.pointer (some ⟨g, 0, none⟩), .int .i64 a, .string t] w fun e w' => e = .returned (.int .i64 4) ∧ w = w' := by
  obtain ⟨A, len, cap, first, ring, hx⟩ := h
  have hBk := hx.1
  have hpl := place_any l.length a ⟨by omega, by omega⟩ ha
  rw [hok] at hpl
  clear hok
  generalize l.length = n at *
  generalize placeA n a = pa at *
  clear hx
  have c2 := hBk.cell 2
  rw [show (dcells A len cap first n)[2]? = some (.int .i64 n) from rfl] at c2
  have ht' : ¬ (1048576 : Int) < (t.size : Int) := by omega
  go_enter Try.func26, Try.ntmps26
  go_wp2_with (first
    | (go_at_call 35; refine (none_any g _ _ _ w hBk).mono ?_; rintro e w1 ⟨rfl, rfl⟩)
    | (go_at_call 12; refine (hpl _).mono ?_; rintro e w1 ⟨rfl, rfl⟩)
    | fail)
  go_ret
  exact ⟨rfl, rfl⟩

set_option maxHeartbeats 2000000 in
theorem put_some {B g : Nat} {l : List ByteArray} (w : World) (h : DQ B w g l) (hl6 : l.length ≤ 65536) (a : Int) (ha : I64 a) (p : Nat) (hp : placeA l.length a = p) (hok : placeOk l.length a = true) (hpn : p < l.length) (t : ByteArray) (ht : t.size ≤ 1048576) :
    Calls Try.prog 26 #[.pointer (some ⟨g, 0, none⟩), .int .i64 a, .string t] w fun e w' => e = .returned (.int .i64 0) ∧ DQ B w' g (l.set p t) ∧ Below B w w' := by
  obtain ⟨A, len, cap, first, ring, hx⟩ := h
  obtain ⟨gr, rfl, hgB, hgl, hcap, hcm⟩ := hx.form (by have := hx.2.2.2.2.1; omega)
  have hne := hx.apart
  obtain ⟨hBk, hg, hown, hl, hnl, hlen, hfirst, hfl, hring⟩ := id hx
  clear hl
  have hpl := place_any l.length a ⟨by omega, by omega⟩ ha
  rw [hok, hp] at hpl
  clear hok hp
  generalize hl : l.length = n at *
  have hfl' : first < len := by omega
  have c2 := hBk.cell 2
  rw [show (dcells (some ⟨gr, 0, none⟩) len cap first n)[2]? = some (.int .i64 n) from rfl] at c2
  have c0 := hBk.cell 0
  rw [show (dcells (some ⟨gr, 0, none⟩) len cap first n)[0]? = some (.slice (some ⟨gr, 0, none⟩) len cap) from rfl] at c0
  obtain ⟨q, hq⟩ : ∃ q, (first + p) % len = q := ⟨_, rfl⟩
  have hql : q < len := by rw [← hq]; exact Nat.mod_lt _ (by omega)
  have hrd := Reads.of_own hown
  have hrlen := hrd.slen
  obtain ⟨b', o', s0, e1, _, hs0, c4⟩ := hrd.text hql
  obtain ⟨rfl, rfl⟩ : gr = b' ∧ 0 = o' := by simpa using e1
  rw [Nat.zero_add] at c4
  have f4 := own_frozen hown q
  have hqI0 : (0 : Int) ≤ (q : Int) := by omega
  have hqI1 : (q : Int) < (len : Int) := by omega
  have ht' : ¬ (1048576 : Int) < (t.size : Int) := by omega
  have hne' : ¬ g = gr := fun e => hne e.symm
  have hat := at_any g (some ⟨gr, 0, none⟩) len cap first n p w.drew hBk (by omega) hlen hfirst (by omega)
  rw [hq] at hat
  have HQ := hide hq
  have HL := hide hl
  have hgl' : g < w.heap.size := hBk.lt
  clear hq hl
  go_enter Try.func26, Try.ntmps26
  go_wp2_with (first
    | (go_at_call 35; refine (none_any g _ _ _ w hBk).mono ?_; rintro e w1 ⟨rfl, rfl⟩)
    | (go_at_call 12; refine (hpl _).mono ?_; rintro e w1 ⟨rfl, rfl⟩)
    | fail)
  go_region_held3 (fun w' => w'.cell? ⟨g, 0, none⟩ = some (.slice (some ⟨gr, 0, none⟩) len cap)) (go_keep)
    (first
      | (go_at_call 33
         go_must (
         refine hat.mono ?_
         rintro e w2 ⟨rfl, m2, hw2⟩
         have hBk2 : Blk w2 g 57 (dcells (some ⟨gr, 0, none⟩) len cap first n) := by rw [hw2]; exact hBk
         have hown2 : w2.ownsRow B 9 1 (.slice (some ⟨gr, 0, none⟩) len cap) len (svs ring) := by rw [hw2]; exact hown
         have hb2 : Below B w w2 := by rw [hw2]; exact below_drewN (Below.refl _ w).drew m2
         have k0 : w2.cell? ⟨g, 0, none⟩ = some (.slice (some ⟨gr, 0, none⟩) len cap) := by rw [hw2]; exact c0
         have k4 : w2.cell? ⟨gr, q, none⟩ = some (.string s0) := by rw [hw2]; exact c4
         have k5 : w2.frozen? ⟨gr, q, none⟩ = false := by rw [hw2]; exact f4
         clear hw2)))
  go_wp2_with fail
  go_ret
  have hB4 : Blk (w2.setCell ⟨gr, q, none⟩ (.string t)) g 57 (dcells (some ⟨gr, 0, none⟩) len cap first n) := hBk2.far (p := ⟨gr, q, none⟩) (by simpa using hne') _
  have hown4 := own_set hown2 hql (.string t)
  rw [svs_set] at hown4
  refine ⟨rfl, ⟨some ⟨gr, 0, none⟩, len, cap, first, ring.set q t, ?_⟩, hb2.setCell hgB _⟩
  rw [List.length_set, HL.out]
  refine ⟨hB4, hg, hown4, by rw [List.length_set, HL.out], by omega, hlen, hfirst, .inl (by omega), ?_⟩
  have hrr := put_ring (s := t) HL.out hrlen hpn hnl hfl' hring
  rw [HQ.out] at hrr
  exact hrr

set_option maxHeartbeats 1000000 in
/-- the document's Range -/
theorem rrange_any (A : Option Addr) (n c : Nat) (l : List ByteArray) (w : World) (hr : Reads w w.heap.size 1 A n (svs l)) (hn : n ≤ 100000) (hc : n ≤ c) (hcm : c ≤ maxLen) (f u : Int) (hf : I64 f) (hu : I64 u) :
    Calls Try.prog 25 #[.slice A n c, .int .i64 f, .int .i64 u] w fun e w' => ∃ v, e = .returned v ∧ w'.ownsRow w.heap.size 9 1 v (rangeOf l f u).length (svs (rangeOf l f u)) ∧ Below w.heap.size w w' := by
  have hl := hr.slen
  subst hl
  have hrl := rangeOf_length l f u
  have HR : rangeOf l f u = (l.drop (spA l.length f u)).take (spB l.length f u - spA l.length f u) := rfl
  obtain ⟨ea, eb, hab, hbn⟩ := sp_facts l.length f u
  have hsp := rspan_any l.length f u ⟨by omega, by omega⟩ hf hu
  rw [ea, eb] at hsp
  clear ea eb
  rw [hrl, HR]
  clear HR hrl
  generalize spA l.length f u = a at *
  generalize spB l.length f u = b at *
  have hcut := hr.cut (k := a) (m := b - a) (cap := c) (by omega) hc
  have hcut' : Reads w w.heap.size 1 (if c = a then A else A.map (·.add a)) (b - a) (svs ((l.drop a).take (b - a))) := by
    have e : ((svs l).drop a).take (b - a) = svs ((l.drop a).take (b - a)) := by simp [svs, List.map_drop, List.map_take]
    rw [e] at hcut
    exact hcut
  clear hcut
  generalize hn' : l.length = n at *
  have HN := hide hn'
  clear hn'
  have h1 : (0 : Int) ≤ (a : Int) := by omega
  have h2 : (a : Int) ≤ (b : Int) := by omega
  have h3 : (b : Int) ≤ (c : Int) := by omega
  have hx : ((b : Int) - (a : Int)).toNat = b - a := by omega
  have hown0 : (w.alloc (.cells #[] 9)).ownsRow w.heap.size 9 1 (.slice (some ⟨w.heap.size, 0, none⟩) 0 0) 0 [] := World.ownsRow_made w #[] 0 (Nat.le_refl _) (by decide) rfl
  rcases A with _ | ad
  · have hn0 : n = 0 := by
      rcases Nat.eq_zero_or_pos n with h | h
      · exact h
      · obtain ⟨b', o, e, _⟩ := hr.2 h
        cases e
    obtain rfl : a = 0 := by omega
    obtain rfl : b = 0 := by omega
    clear hn0
    have hr0 : Reads (w.alloc (.cells #[] 9)) w.heap.size 1 none 0 (svs []) := Reads.none_ _ _ _ _
    go_enter Try.func25, Try.ntmps25
    go_wp2_with (first
      | (go_at_call 11; refine (hsp _).mono ?_; rintro e w1 ⟨rfl, rfl⟩)
      | (at_builtin
         go_must (
         refine wpList_append rfl (.tmp 17) (.tmp 21) 29 rfl str_ok Try.underlying29 hown0 rfl hr0 rfl (svs_one _) (by unfold maxLen; omega) (by omega) (by simp) ?_
         intro v1 w1 hown1 hb1 _ _
         rw [Nat.zero_add, List.nil_append] at hown1))
      | fail)
    go_ret
    exact ⟨v1, rfl, by rw [List.take_zero]; exact hown1, ((Below.refl _ w).alloc (Nat.le_refl _) _).trans hb1⟩
  · by_cases hca : c = a
    · obtain rfl : b = c := by omega
      obtain rfl : b = a := hca
      have hr0 : Reads (w.alloc (.cells #[] 9)) w.heap.size 1 (some ad) 0 (svs []) := Reads.none_ _ _ _ _
      go_enter Try.func25, Try.ntmps25
      go_wp2_with (first
        | (go_at_call 11; refine (hsp _).mono ?_; rintro e w1 ⟨rfl, rfl⟩)
        | (at_builtin
           go_must (
           refine wpList_append rfl (.tmp 17) (.tmp 21) 29 rfl str_ok Try.underlying29 hown0 rfl hr0 rfl (svs_one _) (by unfold maxLen; omega) (by omega) (by simp) ?_
           intro v1 w1 hown1 hb1 _ _
           rw [Nat.zero_add, List.nil_append] at hown1))
        | fail)
      go_ret
      exact ⟨v1, rfl, by rw [Nat.sub_self, List.take_zero]; exact hown1, ((Below.refl _ w).alloc (Nat.le_refl _) _).trans hb1⟩
    · rw [if_neg hca, Option.map_some] at hcut'
      have hr0 := hcut'.alloc (Nat.le_refl _) (.cells #[] 9)
      go_enter Try.func25, Try.ntmps25
      go_wp2_with (first
        | (go_at_call 11; refine (hsp _).mono ?_; rintro e w1 ⟨rfl, rfl⟩)
        | (at_builtin
           go_must (
           refine wpList_append rfl (.tmp 17) (.tmp 21) 29 rfl str_ok Try.underlying29 hown0 rfl hr0 rfl (svs_one _) (by unfold maxLen; omega) (by omega) (by simp) ?_
           intro v1 w1 hown1 hb1 _ _
           rw [Nat.zero_add, List.nil_append] at hown1))
        | fail)
      go_ret
      exact ⟨_, rfl, hown1, ((Below.refl _ w).alloc (Nat.le_refl _) _).trans hb1⟩
end Go.Proofs.Ytlglelgnpkdnbaa
