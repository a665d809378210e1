/- A number's four bytes, plain; the walks of number, texts and Read (package taborref03). Conditions: those of each theorem. -/
import Derived.Test.YtbpodmgogokpiaaFrD
import Derived.Test.YtbpodmgogokpiaaFrG
namespace Go.Proofs.Ytbpodmgogokpiaa
open Go.RowKit
set_option linter.unusedVariables false

theorem of4_sum (l : List UInt8) : of4 l = (l.getD 0 0).toNat + (l.getD 1 0).toNat * 256 + (l.getD 2 0).toNat * 65536 + (l.getD 3 0).toNat * 16777216 := by
  unfold of4
  have h0 := (l.getD 0 0).toNat_lt
  have h1 := (l.getD 1 0).toNat_lt
  have h2 := (l.getD 2 0).toNat_lt
  have h3 := (l.getD 3 0).toNat_lt
  generalize (l.getD 0 0).toNat = a at *
  generalize (l.getD 1 0).toNat = b at *
  generalize (l.getD 2 0).toNat = c at *
  generalize (l.getD 3 0).toNat = d at *
  have e1 : a ||| b * 256 = 2 ^ 8 * b + a := by rw [Nat.two_pow_add_eq_or_of_lt (by omega), Nat.or_comm, Nat.mul_comm]
  have e2 : (2 ^ 8 * b + a) ||| c * 65536 = 2 ^ 16 * c + (2 ^ 8 * b + a) := by rw [Nat.two_pow_add_eq_or_of_lt (i := 16) (by omega), Nat.or_comm, Nat.mul_comm c]
  have e3 : (2 ^ 16 * c + (2 ^ 8 * b + a)) ||| d * 16777216 = 2 ^ 24 * d + (2 ^ 16 * c + (2 ^ 8 * b + a)) := by rw [Nat.two_pow_add_eq_or_of_lt (i := 24) (by omega), Nat.or_comm, Nat.mul_comm d]
  rw [e1, e2, e3]
  omega
theorem of4_le4 (n : Nat) (hn : n < 4294967296) (r : List UInt8) : of4 (le4 n ++ r) = n := by
  rw [of4_sum]
  simp only [le4, List.cons_append, List.getD_cons_zero, List.getD_cons_succ, UInt8.toNat_ofNat']
  omega
theorem le4_of4 {l : List UInt8} (h : 4 ≤ l.length) : le4 (of4 l) = l.take 4 := by
  match l, h with
  | a :: b :: c :: d :: r, _ =>
    rw [of4_sum]
    simp only [List.getD_cons_zero, List.getD_cons_succ, List.take_succ_cons, List.take_zero, le4]
    have h0 := a.toNat_lt
    have h1 := b.toNat_lt
    have h2 := c.toNat_lt
    have h3 := d.toNat_lt
    congr 1
    · apply UInt8.toNat_inj.1; simp only [UInt8.toNat_ofNat']; omega
    congr 1
    · apply UInt8.toNat_inj.1; simp only [UInt8.toNat_ofNat']; omega
    congr 1
    · apply UInt8.toNat_inj.1; simp only [UInt8.toNat_ofNat']; omega
    congr 1
    apply UInt8.toNat_inj.1; simp only [UInt8.toNat_ofNat']; omega

theorem rnumber_any (A : Option Addr) (n c : Nat) (l : List UInt8) (w : World) {B : Nat} (hr : Reads w B 1 A n (bvs l)) (hn : 4 ≤ n) (hc : n ≤ c) (hcm : c ≤ maxLen) :
    Calls Try.prog 35 #[.slice A n c] w fun e w' => e = .returned (.int .i64 (of4 l)) ∧ ∃ m, w' = w.drewN m := by
  have hf := hr.front hn
  have hlt := of4_lt l
  have HO := hide (of4_take l)
  have hw : IntKind.i64.wrap ((of4 l : Nat) : Int) = ((of4 l : Nat) : Int) := IntWalk.i64_in _ (by omega)
  have h4c : (4 : Int) ≤ (c : Int) := by omega
  go_enter Try.func35, Try.ntmps35
  go_wp2_with (first
    | (go_at_call 37
       go_must (
       refine (rof_any A 4 c (l.take 4) w hf (by decide) (by decide)).mono ?_
       rintro e w2 ⟨rfl, m, rfl⟩
       rw [HO.out]))
    | fail)
  go_ret
  exact ⟨rfl, m, rfl⟩

theorem textsB_none {b : List UInt8} (h4 : ¬ b.length < 4) (h6 : ¬ 65536 < of4 b) (h : textsN (of4 b) (b.drop 4) = none) : textsB b = none := by
  unfold textsB
  rw [if_neg h4, if_neg h6, h]
theorem textsB_some {b : List UInt8} {l : List ByteArray} (h4 : ¬ b.length < 4) (h6 : ¬ 65536 < of4 b) (h : textsN (of4 b) (b.drop 4) = some (l, [])) : textsB b = some l := by
  unfold textsB
  rw [if_neg h4, if_neg h6, h]
  simp
theorem textsB_more {b x : List UInt8} {l : List ByteArray} (h4 : ¬ b.length < 4) (h6 : ¬ 65536 < of4 b) (h : textsN (of4 b) (b.drop 4) = some (l, x)) (hx : x ≠ []) : textsB b = none := by
  unfold textsB
  rw [if_neg h4, if_neg h6, h]
  simp [hx]
def RTextsPost (b : List UInt8) (H : Nat) (x : Ending) (w' : World) : Prop :=
  match textsB b with
  | none => ∃ v, x = .returned (.tuple #[v, .bool false])
  | some l => ∃ v, x = .returned (.tuple #[v, .bool true]) ∧ w'.ownsRow H 9 1 v l.length (svs l)
theorem rtextsPost_none {b : List UInt8} {H : Nat} {v : Value} {w' : World} (h : textsB b = none) : RTextsPost b H (.returned (.tuple #[v, .bool false])) w' := by
  unfold RTextsPost; rw [h]; exact ⟨v, rfl⟩
theorem rtextsPost_some {b : List UInt8} {H : Nat} {v : Value} {l : List ByteArray} {w' : World} (h : textsB b = some l) (ho : w'.ownsRow H 9 1 v l.length (svs l)) : RTextsPost b H (.returned (.tuple #[v, .bool true])) w' := by
  unfold RTextsPost; rw [h]; exact ⟨v, rfl, ho⟩
theorem undrewI {B : Nat} {w : World} (m : Nat) : Below B w (w.drewN m) := below_drewN (Below.refl _ _) m

/-- bytes behind a place -/
theorem Reads.behind {w : World} {B : Nat} {A : Option Addr} {n c k : Nat} {l : List UInt8} (h : Reads w B 1 A n (bvs l)) (hk : k < n) (hc : n ≤ c) : Reads w B 1 (A.map (·.add k)) (n - k) (bvs (l.drop k)) := by
  have h1 := h.cut (k := k) (m := n - k) (cap := c) (by omega) hc
  rw [if_neg (by omega), bvs_drop, bvs_take, List.take_of_length_le (by rw [List.length_drop, h.blen]; exact Nat.le_refl _)] at h1
  exact h1

set_option maxHeartbeats 4000000 in
theorem rtexts_any (A : Option Addr) (n c : Nat) (b : List UInt8) (w : World) (hr : Reads w w.heap.size 1 A n (bvs b)) (hc : n ≤ c) (hcm : c ≤ maxLen) (hn : n ≤ 100000000) :
    Calls Try.prog 36 #[.slice A n c] w fun x w' => RTextsPost b w.heap.size x w' ∧ Below w.heap.size w w' := by
  have HL := hide hr.blen
  by_cases h4 : n < 4
  · have hx : textsB b = none := by unfold textsB; rw [if_pos (by rw [HL.out]; exact h4)]
    have HX := hide hx
    clear hx
    have hI : (n : Int) < 4 := by omega
    go_enter Try.func36, Try.ntmps36
    go_wp2_with fail
    go_ret2
    exact ⟨rtextsPost_none HX.out, Below.refl _ _⟩
  · have hI : ¬ (n : Int) < 4 := by omega
    have HN := fun w' (h : Reads w' w.heap.size 1 A n (bvs b)) => hide (rnumber_any A n c b w' h (by omega) hc hcm)
    by_cases hbig : 65536 < of4 b
    · have hx : textsB b = none := by unfold textsB; rw [if_neg (by rw [HL.out]; exact h4), if_pos hbig]
      have HX := hide hx
      clear hx
      have hbI : (65536 : Int) < ((of4 b : Nat) : Int) := by omega
      go_enter Try.func36, Try.ntmps36
      go_wp2_with (first
        | (go_at_call 35
           go_must (
           refine (HN w hr).out.mono ?_
           rintro e w2 ⟨rfl, m, rfl⟩))
        | fail)
      go_ret2
      exact ⟨rtextsPost_none HX.out, undrewI _⟩
    · have HT1 := hide (textsB_none (b := b) (by rw [HL.out]; exact h4) hbig)
      have HT2 := hide (fun l => textsB_some (b := b) (l := l) (by rw [HL.out]; exact h4) hbig)
      have HT3 := hide (fun l x => textsB_more (b := b) (l := l) (x := x) (by rw [HL.out]; exact h4) hbig)
      have hbI : ¬ (65536 : Int) < ((of4 b : Nat) : Int) := by omega
      have hN6 : of4 b ≤ 65536 := by omega
      generalize of4 b = N at *
      go_enter Try.func36, Try.ntmps36
      go_wp2_with (first
        | (go_at_call 35
           have _t := hI
           go_must (
           refine (HN w hr).out.mono ?_
           rintro e w2 ⟨rfl, m, hw2⟩
           have hb2 : Below w.heap.size w w2 := by rw [hw2]; exact undrewI _
           have hr2 := hr.below hb2
           clear hw2 hI))
        | (go_at_call 35
           go_must (
           refine (HN w2 hr2).out.mono ?_
           rintro e w3 ⟨rfl, m, hw3⟩
           have hb3 : Below w.heap.size w w3 := by rw [hw3]; exact hb2.trans (undrewI _)
           clear hw3))
        | fail)
      go_loopw [5, 6, 7] (fun v a i wr => ∃ (t p : Nat) (acc : List ByteArray), t ≤ N ∧ i = .int .i64 t ∧ a = .int .i64 p ∧ 4 ≤ p ∧ p ≤ n ∧ wr.ownsRow w.heap.size 9 1 v t (svs acc) ∧ acc.length = t ∧ Mid N t (b.drop 4) acc (b.drop p) ∧ Below w.heap.size w wr)
        (fun _ _ i _ => N - (intOf i).toNat)
      case atStart => exact ⟨0, 4, [], by omega, rfl, rfl, by omega, by omega, World.ownsRow_nil _ _ _ _, rfl, mid_start _ _, hb3⟩
      case round =>
        clear hb3 hb2 hr2 HN
        obtain ⟨t, p, acc, ht, rfl, rfl, hp4, hpn, hown, hal, hmid, hbw⟩ := hrel
        have HAL := hide hal
        have HMID := hide hmid
        have HRL : Hid ((b.drop p).length = n - p) := by show _ = _; rw [List.length_drop, HL.out]
        clear hal hmid
        have hwa : IntKind.i64.wrap ((n : Int) - (p : Int)) = (n : Int) - (p : Int) := IntWalk.i64_in _ (by omega)
        by_cases htn : t < N
        · have htI : (t : Int) < (N : Int) := by omega
          have hw2 : IntKind.i64.wrap ((t : Int) + 1) = (t : Int) + 1 := IntWalk.i64_in _ (by omega)
          by_cases hn4 : n - p < 4
          · have hx : textsB b = none := HT1.out (mid_none HMID.out htn (.inl (by rw [HRL.out]; exact hn4)))
            have HX := hide hx
            clear hx
            have hI4 : (n : Int) - (p : Int) < 4 := by omega
            go_wp2_with fail
            go_ret2
            exact ⟨rtextsPost_none HX.out, hbw⟩
          · have hI4 : ¬ (n : Int) - (p : Int) < 4 := by omega
            have hp0 : (0 : Int) ≤ (p : Int) := by omega
            have hpnI : (p : Int) ≤ (n : Int) := by omega
            have hcp : ¬ c = p := by omega
            have hsub : ((n : Int) - (p : Int)).toNat = n - p := by omega
            have hrd := (hr.below hbw).behind (k := p) (c := c) (by omega) hc
            have HN := fun w' (h : Reads w' w.heap.size 1 (A.map (·.add p)) (n - p) (bvs (b.drop p))) => hide (rnumber_any (A.map (·.add p)) (n - p) (c - p) (b.drop p) w' h (by omega) (by omega) (by omega))
            have hlt := of4_lt (b.drop p)
            by_cases hm : n - p - 4 < of4 (b.drop p)
            · have hx : textsB b = none := HT1.out (mid_none HMID.out htn (.inr (by rw [HRL.out]; exact hm)))
              have HX := hide hx
              clear hx
              generalize of4 (b.drop p) = m at *
              have hmI : (n : Int) - (p : Int) - 4 < (m : Int) := by omega
              go_wp2_with (first
                | (go_at_call 35
                   go_must (
                   refine (HN wr hrd).out.mono ?_
                   rintro e w2 ⟨rfl, m2, hw2'⟩
                   have hb2 : Below w.heap.size w w2 := by rw [hw2']; exact hbw.trans ((undrewI _).mono hbw.size)
                   clear hw2'))
                | fail)
              go_ret2
              exact ⟨rtextsPost_none HX.out, hb2⟩
            · have HM2 := hide (mid_next HMID.out htn (by rw [HRL.out]; exact hn4) (by rw [HRL.out]; exact hm))
              generalize of4 (b.drop p) = m at *
              have hmI : ¬ (n : Int) - (p : Int) - 4 < (m : Int) := by omega
              have hp44 : (0 : Int) ≤ (p : Int) + 4 := by omega
              have hlo : (p : Int) + 4 ≤ (p : Int) + 4 + (m : Int) := by omega
              have hhi : (p : Int) + 4 + (m : Int) ≤ (c : Int) := by omega
              have hsm2 : ((p : Int) + 4 + (m : Int) - ((p : Int) + 4)).toNat = m := by omega
              obtain ⟨q, hq⟩ : ∃ q, p + 4 = q := ⟨_, rfl⟩
              have hpt : ((p : Int) + 4).toNat = q := by omega
              have hcut := (hr.below hbw).cut (k := q) (m := m) (cap := c) (by omega) hc
              have ecut : ((bvs b).drop q).take m = bvs (((b.drop p).drop 4).take m) := by rw [bvs_drop, bvs_take, List.drop_drop, ← hq]
              rw [ecut] at hcut
              have tok1 : True := trivial
              have hsm3 : p + 4 + m - q = m := by omega
              have HQ := hide hq
              have hqn : q + m ≤ n := by omega
              clear hq
              by_cases hcp4 : c = q
              · rw [if_pos hcp4] at hcut
                obtain rfl : m = 0 := by omega
                obtain rfl : c = q := hcp4
                go_wp2_with (first
                  | (go_at_call 35
                     have _t := tok1
                     go_must (
                     refine (HN wr hrd).out.mono ?_
                     rintro e w2 ⟨rfl, m2, hw2'⟩
                     have hb2 : Below w.heap.size w w2 := by rw [hw2']; exact hbw.trans ((undrewI _).mono hbw.size)
                     have hrd2 := hrd.below (w' := w2) (by rw [hw2']; exact below_drewN (Below.refl _ _) _)
                     have hown2 := own_below hown (w' := w2) (by rw [hw2']; exact below_drewN (Below.refl _ _) _)
                     have hcut2 := hcut.below (w' := w2) (by rw [hw2']; exact below_drewN (Below.refl _ _) _)
                     clear hw2' tok1 _t))
                  | (go_at_call 35
                     go_must (
                     refine (HN w2 hrd2).out.mono ?_
                     rintro e w3 ⟨rfl, m3, hw3'⟩
                     have hb3 : Below w.heap.size w w3 := by rw [hw3']; exact hb2.trans ((undrewI _).mono hb2.size)
                     have hown3 := own_below hown2 (w' := w3) (by rw [hw3']; exact below_drewN (Below.refl _ _) _)
                     have hcut3 := hcut2.below (w' := w3) (by rw [hw3']; exact below_drewN (Below.refl _ _) _)
                     clear hw3'
                     have hcv := run_bytes_str (P := Try.prog) 25 9 5 Try.underlying25 Try.underlying5 Try.underlying9 hcut3 (0)
                     have hone := Reads.one_new w3 (.string ⟨#[]⟩) 9))
                  | (refine wpList_append rfl (.tmp 45) (.tmp 55) 22 rfl str_ok Try.underlying22 (hown3.alloc _) rfl hone rfl (svs_one [_]) (by unfold maxLen; omega) (by omega) (by have := hb3.size; simp; omega) ?_
                     intro v5 w5 hown5 hb5 hg5 _
                     have hb35 : Below w.heap.size w3 w5 := ((Below.refl _ w3).alloc hb3.size _).trans hb5
                     have hbw5 := hb3.trans hb35)
                  | fail)
                go_roundw
                case rel =>
                  refine ⟨t + 1, p + 4 + 0, acc ++ [⟨#[]⟩], by omega, by simp, by simp, by omega, by omega, ?_, by rw [List.length_append, HAL.out]; rfl, ?_, hbw5⟩
                  · rw [svs_append]
                    exact hown5
                  · have := HM2.out
                    rw [List.drop_drop, List.drop_drop, List.take_zero] at this
                    exact this
                case measure => simp [intOf]; omega
              · rw [if_neg hcp4] at hcut
                obtain ⟨S, hS⟩ : ∃ S : ByteArray, ⟨(((b.drop p).drop 4).take m).toArray⟩ = S := ⟨_, rfl⟩
                rw [hS] at HM2
                have HS := hide hS
                clear hS
                go_wp2_with (first
                  | (go_at_call 35
                     have _t := tok1
                     go_must (
                     refine (HN wr hrd).out.mono ?_
                     rintro e w2 ⟨rfl, m2, hw2'⟩
                     have hb2 : Below w.heap.size w w2 := by rw [hw2']; exact hbw.trans ((undrewI _).mono hbw.size)
                     have hrd2 := hrd.below (w' := w2) (by rw [hw2']; exact below_drewN (Below.refl _ _) _)
                     have hown2 := own_below hown (w' := w2) (by rw [hw2']; exact below_drewN (Below.refl _ _) _)
                     have hcut2 := hcut.below (w' := w2) (by rw [hw2']; exact below_drewN (Below.refl _ _) _)
                     clear hw2' tok1 _t))
                  | (go_at_call 35
                     go_must (
                     refine (HN w2 hrd2).out.mono ?_
                     rintro e w3 ⟨rfl, m3, hw3'⟩
                     have hb3 : Below w.heap.size w w3 := by rw [hw3']; exact hb2.trans ((undrewI _).mono hb2.size)
                     have hown3 := own_below hown2 (w' := w3) (by rw [hw3']; exact below_drewN (Below.refl _ _) _)
                     have hcut3 := hcut2.below (w' := w3) (by rw [hw3']; exact below_drewN (Below.refl _ _) _)
                     clear hw3'
                     have hcv := run_bytes_str (P := Try.prog) 25 9 5 Try.underlying25 Try.underlying5 Try.underlying9 hcut3 (c - q)
                     rw [HS.out] at hcv
                     have hone := Reads.one_new w3 (.string S) 9))
                  | (refine wpList_append rfl (.tmp 45) (.tmp 55) 22 rfl str_ok Try.underlying22 (hown3.alloc _) rfl hone rfl (svs_one [_]) (by unfold maxLen; omega) (by omega) (by have := hb3.size; simp; omega) ?_
                     intro v5 w5 hown5 hb5 hg5 _
                     have hb35 : Below w.heap.size w3 w5 := ((Below.refl _ w3).alloc hb3.size _).trans hb5
                     have hbw5 := hb3.trans hb35)
                  | fail)
                go_roundw
                case rel =>
                  refine ⟨t + 1, p + 4 + m, acc ++ [S], by omega, by simp, by simp, by omega, by omega, ?_, by rw [List.length_append, HAL.out]; rfl, ?_, hbw5⟩
                  · rw [svs_append]
                    exact hown5
                  · have := HM2.out
                    rw [List.drop_drop, List.drop_drop, ← Nat.add_assoc] at this
                    exact this
                case measure => simp [intOf]; omega
        · have htI : ¬ (t : Int) < (N : Int) := by omega
          obtain rfl : t = N := by omega
          have hE := mid_end HMID.out
          by_cases hpn' : p = n
          · have hnil : b.drop p = [] := List.eq_nil_of_length_eq_zero (by rw [HRL.out]; omega)
            rw [hnil] at hE
            have HX := hide (HT2.out acc hE)
            clear hE hnil
            subst hpn'
            go_wp2_with fail
            go_ret2
            refine ⟨rtextsPost_some HX.out ?_, hbw⟩
            rw [HAL.out]
            exact hown
          · have HX := hide (HT3.out acc _ hE (fun e => by have := HRL.out; rw [e] at this; simp at this; omega))
            clear hE
            have hne : ((p : Int) == (n : Int)) = false := by simp; omega
            have hne' : (p == n) = false := by simp; omega
            go_wp2_with fail
            go_ret2
            exact ⟨rtextsPost_none HX.out, hbw⟩
end Go.Proofs.Ytbpodmgogokpiaa
