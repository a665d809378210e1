/- The walk of the law's played: calls, one behind the other, by the program and by the document (package taborlaw21). Conditions: those of the theorem. (Printed by wip/gen_caw.py.) -/
import Derived.Test.YthfgblchlgodmaaCaV
namespace Go.Proofs.Ythfgblchlgodmaa
open Go.RowKit
set_option linter.unusedVariables false

/-- entries behind calls -/
def playS (l : List CAct) : EL × EL := l.foldl (fun p x => (doS p.1 p.2 x, doN p.1 p.2 x)) ([], [])
theorem play_snoc {l : List CAct} {t : Nat} {x : CAct} (hx : l[t]? = some x) : playS (l.take (t + 1)) = (doS (playS (l.take t)).1 (playS (l.take t)).2 x, doN (playS (l.take t)).1 (playS (l.take t)).2 x) := by
  unfold playS
  rw [take_snocD hx, List.foldl_append]
  rfl
theorem do_len (S N : EL) (x : CAct) : (doS S N x).length ≤ S.length + 1 ∧ (doN S N x).length ≤ N.length + 1 := by
  have h1 := with_len S (digS x.script, x.script)
  have h2 := with_len N (x.name, x.script)
  have h3 := drop_len N x.name
  unfold doS doN
  constructor
  · split
    · exact h1
    · split
      · simp
      · omega
  · split
    · split
      · exact h2
      · omega
    · split
      · split
        · omega
        · omega
      · omega
theorem play_len (l : List CAct) (t : Nat) : (playS (l.take t)).1.length ≤ t ∧ (playS (l.take t)).2.length ≤ t := by
  induction t with
  | zero => exact ⟨Nat.le_refl _, Nat.le_refl _⟩
  | succ t ih =>
    cases hx : l[t]? with
    | none =>
      have hl : l.length ≤ t := by simpa using hx
      rw [List.take_of_length_le (by omega)]
      rw [List.take_of_length_le hl] at ih
      omega
    | some x =>
      rw [play_snoc hx]
      have := do_len (playS (l.take t)).1 (playS (l.take t)).2 x
      dsimp only
      omega
theorem CE.set {w : World} {g r1 r2 k i : Nat} {S N : EL} {t : TypeId} {cs : Array Value} (h : CE w g r1 r2 S N) (hk : Blk w k t cs) (u : Value) (hne : t ≠ 75) : CE (w.setCell ⟨k, i, none⟩ u) g r1 r2 S N := by
  have hn := h.ne hk
  obtain ⟨ss, ns, ⟨h1, h2, h3, h4⟩, h5⟩ := h
  exact ⟨ss, ns, ⟨h1.far (fun e => hk.ne_ h1 hne e.symm) u, h2.setCell (fun e => hn.1 e.symm) u, h3.setCell (fun e => hn.2 e.symm) u, h4⟩, h5⟩
theorem MK.mid {r1 r2 : Nat} {w wr w' : World} (hM : MK r1 r2 w wr) (h : Below w.heap.size wr w') : MK r1 r2 w w' :=
  ⟨h.os.trans hM.os, h.tape.trans hM.tape, h.output.trans hM.output, Nat.le_trans hM.size h.size, fun k hk h1 h2 => (h.block k hk).trans (hM.block k hk h1 h2)⟩
theorem EOwn.len {w : World} {B n c : Nat} {A : Option Addr} {l : EL} (h : EOwn w B A n c l) : l.length = n := by
  have := h.1
  rw [evs_len] at this
  omega
theorem EOwn.mk {w w' : World} {g r1 r2 B n c : Nat} {S N l : EL} {A : Option Addr} (h : CE w g r1 r2 S N) (hm : MK r1 r2 w w') (ho : EOwn w B A n c l) : EOwn w' B A n c l := by
  obtain ⟨h1, h2⟩ := ho
  refine ⟨h1, ?_⟩
  rcases h2 with h2 | ⟨g', cap, cur, a, b, c', d⟩
  · exact .inl h2
  · have hk : Blk w g' 49 cur := c'
    exact .inr ⟨g', cap, cur, a, b, h.blk hm hk, d⟩

set_option maxHeartbeats 8000000 in
set_option maxRecDepth 20000 in
theorem played_any {A : Option Addr} {n c g r1 r2 : Nat} {l : List CAct} (w : World) (hr : Reads w w.heap.size 3 A n (avs l)) (h : CE w g r1 r2 [] []) (hsum : asum l ≤ 3000) (hwh : ∀ x ∈ l, 0 ≤ x.what ∧ x.what ≤ 3) :
    Calls Try.prog 12 #[.pointer (some ⟨g, 0, none⟩), .slice A n c] w fun e w' => ∃ A1 n1 c1 A2 n2 c2, e = .returned (.tuple #[.agg #[.slice A1 n1 c1, .slice A2 n2 c2], .bool true]) ∧ CE w' g r1 r2 (playS l).1 (playS l).2 ∧ EOwn w' w.heap.size A1 n1 c1 (playS l).1 ∧ EOwn w' w.heap.size A2 n2 c2 (playS l).2 ∧ MK r1 r2 w w' := by
  have HL := hide hr.alen
  have hn60 : n ≤ 60 := by have := asum_len l; rw [HL.out] at this; omega
  have HSZ : Hid (∀ x ∈ l, x.name.size ≤ 3000 ∧ x.script.size ≤ 3000) := fun x hx => by have := asum_mem hx; omega
  have k4 := (Blk.new w 30 #[.slice none 0 0, .slice none 0 0]).alloc (.cells #[.slice none 0 0, .slice none 0 0] 30)
  have k6 := Blk.new (w.alloc (.cells #[.slice none 0 0, .slice none 0 0] 30)) 30 #[.slice none 0 0, .slice none 0 0]
  rw [World.size_alloc] at k6
  have hb0 : Below w.heap.size w ((w.alloc (.cells #[.slice none 0 0, .slice none 0 0] 30)).alloc (.cells #[.slice none 0 0, .slice none 0 0] 30)) := ((Below.refl _ w).alloc (Nat.le_refl _) _).alloc (by simp) _
  have hc0 := h.below hb0
  have hg12 : Hid (r1 < w.heap.size ∧ r2 < w.heap.size) := by
    obtain ⟨ss, ns, ⟨_, m1, m2, _⟩, _⟩ := h
    exact ⟨m1.lt, m2.lt⟩
  have HCE := hide h
  clear h hsum
  go_enter Try.func12, Try.ntmps12
  go_upto_region 2 with (fail)
  generalize (w.alloc (.cells #[.slice none 0 0, .slice none 0 0] 30)).alloc (.cells #[.slice none 0 0, .slice none 0 0] 30) = w1 at *
  go_wp2_with fail
  go_loopw [7] (fun i wr => ∃ t A1 n1 c1 A2 n2 c2, t ≤ n ∧ i = .int .i64 (t : Nat) ∧ CE wr g r1 r2 (playS (l.take t)).1 (playS (l.take t)).2 ∧ Blk wr (w.heap.size + 1) 30 #[.slice A1 n1 c1, .slice A2 n2 c2] ∧ Blk wr w.heap.size 30 #[.slice none 0 0, .slice none 0 0] ∧ EOwn wr w.heap.size A1 n1 c1 (playS (l.take t)).1 ∧ EOwn wr w.heap.size A2 n2 c2 (playS (l.take t)).2 ∧ MK r1 r2 w wr) (fun i _ => n - (intOf i).toNat)
  case atStart => exact ⟨0, none, 0, 0, none, 0, 0, by omega, rfl, hc0, k6, k4, World.ownsRow_nil _ _ _ _, World.ownsRow_nil _ _ _ _, MK.of hb0⟩
  case round =>
    obtain ⟨t, A1, n1, c1, A2, n2, c2, ht, rfl, hC, hK6, hK4, hE1, hE2, hM⟩ := hrel
    clear k4 k6 hb0 hc0
    have hlen := play_len l t
    have hn1 : n1 ≤ 20000 := by have := hE1.len; omega
    have hn2 : n2 ≤ 20000 := by have := hE2.len; omega
    have hll : Hid ((playS (l.take t)).1.length + (playS (l.take t)).2.length < 60000) := by show _ < _; omega
    by_cases htn : t < n
    · have htI : (t : Int) < (n : Int) := by omega
      have ht0 : (0 : Int) ≤ (t : Int) := by omega
      have hw2 : IntKind.i64.wrap ((t : Int) + 1) = (t : Int) + 1 := IntWalk.i64_in _ (by omega)
      have hBz : w.heap.size ≤ wr.heap.size := hM.size
      have hrw := HCE.out.reads hM (Nat.le_refl _) hr
      obtain ⟨b, o, x, rfl, hbb, hlx, a0, a1, a2⟩ := hrw.act htn
      have hx := hwh x (List.mem_of_getElem? hlx)
      have hxs : x.script.size ≤ 100000 := by have := (HSZ.out x (List.mem_of_getElem? hlx)).2; omega
      have hxn : x.name.size ≤ 9223372036854775807 := by have := (HSZ.out x (List.mem_of_getElem? hlx)).1; omega
      have HPS := hide (play_snoc hlx)
      have hbb' : b < wr.heap.size := Nat.lt_of_lt_of_le hbb hBz
      have hS5 : ∀ w', Below wr.heap.size wr w' → (fun w' => (w'.cell? ⟨w.heap.size + 1, 0, none⟩ = some (.slice A1 n1 c1) ∧ w'.cell? ⟨w.heap.size + 1, 1, none⟩ = some (.slice A2 n2 c2)) ∧ w'.cell? ⟨b, o + t * 3, none⟩ = some (.int .i64 x.what) ∧ w'.cell? ⟨b, o + t * 3 + 1, none⟩ = some (.string x.name) ∧ w'.cell? ⟨b, o + t * 3 + 2, none⟩ = some (.string x.script)) w' := fun w' hq =>
        ⟨⟨(hK6.below hq hK6.lt).cell 0, (hK6.below hq hK6.lt).cell 1⟩, (hq.cell (p := ⟨b, o + t * 3, none⟩) hbb').trans a0, (hq.cell (p := ⟨b, o + t * 3 + 1, none⟩) hbb').trans a1, (hq.cell (p := ⟨b, o + t * 3 + 2, none⟩) hbb').trans a2⟩
      have hb : Below wr.heap.size wr wr.drew := (Below.refl _ wr).drew
      have HA := hide (And.intro a0 (And.intro a1 a2))
      clear hlx a0 a1 a2 hlen hwh hr hrw
      go_upto_region 5 with (fail)
      refine wp_region_held_drew (S := (fun w' => (w'.cell? ⟨w.heap.size + 1, 0, none⟩ = some (.slice A1 n1 c1) ∧ w'.cell? ⟨w.heap.size + 1, 1, none⟩ = some (.slice A2 n2 c2)) ∧ w'.cell? ⟨b, o + t * 3, none⟩ = some (.int .i64 x.what) ∧ w'.cell? ⟨b, o + t * 3 + 1, none⟩ = some (.string x.name) ∧ w'.cell? ⟨b, o + t * 3 + 2, none⟩ = some (.string x.script))) (by kernel_rfl) ?_ (fun hHeld => ?_)
      · exact hS5 _ hb
      refine wpAnyH_take (i := 0) (v := ?_) rfl (by kernel_rfl) (by kernel_rfl) (by kernel_rfl) (fun _ _ _ h => h) (Or.inl ⟨by rfl, ?hy⟩) (by assumption) ?_
      case hy => (intro w hSw; (try dsimp only at hSw); go_simp; all_goals with_reducible rfl)
      try simp only [Act.put, List.getElem_toArray, List.getElem_cons_succ, List.getElem_cons_zero, List.setIfInBounds_toArray, List.set_cons_zero, List.set_cons_succ]
      refine wpAnyH_take (i := 1) (v := ?_) rfl (by kernel_rfl) (by kernel_rfl) (by kernel_rfl) (fun _ _ _ h => h) (Or.inl ⟨by rfl, ?hy⟩) (by assumption) ?_
      case hy => (intro w hSw; (try dsimp only at hSw); go_simp; all_goals with_reducible rfl)
      try simp only [Act.put, List.getElem_toArray, List.getElem_cons_succ, List.getElem_cons_zero, List.setIfInBounds_toArray, List.set_cons_zero, List.set_cons_succ]
      refine wpAnyH_take (i := 2) (v := ?_) rfl (by kernel_rfl) (by kernel_rfl) (by kernel_rfl) (fun _ _ _ h => h) (Or.inl ⟨by rfl, ?hy⟩) (by assumption) ?_
      case hy => (intro w hSw; (try dsimp only at hSw); go_simp; all_goals with_reducible rfl)
      try simp only [Act.put, List.getElem_toArray, List.getElem_cons_succ, List.getElem_cons_zero, List.setIfInBounds_toArray, List.set_cons_zero, List.set_cons_succ]
      refine wpAnyH_take (i := 3) (v := ?_) rfl (by kernel_rfl) (by kernel_rfl) (by kernel_rfl) (fun _ _ _ h => h) (Or.inl ⟨by rfl, ?hy⟩) (by assumption) ?_
      case hy => (intro w hSw; (try dsimp only at hSw); go_simp; all_goals with_reducible rfl)
      try simp only [Act.put, List.getElem_toArray, List.getElem_cons_succ, List.getElem_cons_zero, List.setIfInBounds_toArray, List.set_cons_zero, List.set_cons_succ]
      refine wpAnyH_take (i := 4) (v := ?_) rfl (by kernel_rfl) (by kernel_rfl) (by kernel_rfl) (fun _ _ _ h => h) (Or.inl ⟨by rfl, ?hy⟩) (by assumption) ?_
      case hy => (intro w hSw; (try dsimp only at hSw); go_simp; all_goals with_reducible rfl)
      try simp only [Act.put, List.getElem_toArray, List.getElem_cons_succ, List.getElem_cons_zero, List.setIfInBounds_toArray, List.set_cons_zero, List.set_cons_succ]
      refine wpAnyH_ready (rs := [5, 10]) (by kernel_rfl) (by simp) (AllReadyH.cons rfl (fun K hK => ?_) (AllReadyH.cons rfl (fun K hK => ?_) AllReadyH.nil))
      · go_simp
        (go_at_call 20; go_must (refine (rdo_any (x := x) _ (own_below hE1 hb) (own_below hE2 hb) (Nat.le_trans hBz hb.size) hn1 hn2 hx.1 hx.2 hxs hxn).mono ?_; rintro e wD ⟨A6, n6, c6, A7, n7, c7, rfl, hF1, hF2, hbD⟩))
        have hb := hb.trans (hbD.mono hb.size)
        (try have hH := hH.below hbD hH.lt)
        refine hK.out _ _ ?_ (fun hHeld => ?_)
        · exact hS5 _ hb
        clear hK K
        try simp only [Act.put, List.getElem_toArray, List.getElem_cons_succ, List.getElem_cons_zero, List.setIfInBounds_toArray, List.set_cons_zero, List.set_cons_succ]
        refine wpAnyH_take (i := 6) (v := ?_) rfl (by kernel_rfl) (by kernel_rfl) (by kernel_rfl) (fun _ _ _ h => h) (Or.inl ⟨by rfl, ?hy⟩) (by assumption) ?_
        case hy => (intro w hSw; (try dsimp only at hSw); go_simp; all_goals with_reducible rfl)
        try simp only [Act.put, List.getElem_toArray, List.getElem_cons_succ, List.getElem_cons_zero, List.setIfInBounds_toArray, List.set_cons_zero, List.set_cons_succ]
        refine wpAnyH_take (i := 7) (v := ?_) rfl (by kernel_rfl) (by kernel_rfl) (by kernel_rfl) (fun _ _ _ h => h) (Or.inl ⟨by rfl, ?hy⟩) (by assumption) ?_
        case hy => (intro w hSw; (try dsimp only at hSw); go_simp; all_goals with_reducible rfl)
        try simp only [Act.put, List.getElem_toArray, List.getElem_cons_succ, List.getElem_cons_zero, List.setIfInBounds_toArray, List.set_cons_zero, List.set_cons_succ]
        refine wpAnyH_take (i := 8) (v := ?_) rfl (by kernel_rfl) (by kernel_rfl) (by kernel_rfl) (fun _ _ _ h => h) (Or.inl ⟨by rfl, ?hy⟩) (by assumption) ?_
        case hy => (intro w hSw; (try dsimp only at hSw); go_simp; all_goals with_reducible rfl)
        try simp only [Act.put, List.getElem_toArray, List.getElem_cons_succ, List.getElem_cons_zero, List.setIfInBounds_toArray, List.set_cons_zero, List.set_cons_succ]
        refine wpAnyH_take (i := 9) (v := ?_) rfl (by kernel_rfl) (by kernel_rfl) (by kernel_rfl) (fun _ _ _ h => h) (Or.inl ⟨by rfl, ?hy⟩) (by assumption) ?_
        case hy => (intro w hSw; (try dsimp only at hSw); go_simp; all_goals with_reducible rfl)
        try simp only [Act.put, List.getElem_toArray, List.getElem_cons_succ, List.getElem_cons_zero, List.setIfInBounds_toArray, List.set_cons_zero, List.set_cons_succ]
        refine wpAnyH_ready (rs := [10]) (by kernel_rfl) (by simp) (AllReadyH.cons rfl (fun K hK => ?_) AllReadyH.nil)
        go_simp
        have hH := Blk.new ((wD)) 30 #[.slice none 0 0, .slice none 0 0]
        have hF1 := own_below hF1 ((Below.refl _ ((wD))).alloc (Nat.le_refl _) (.cells #[.slice none 0 0, .slice none 0 0] 30))
        have hF2 := own_below hF2 ((Below.refl _ ((wD))).alloc (Nat.le_refl _) (.cells #[.slice none 0 0, .slice none 0 0] 30))
        obtain ⟨H, hHe, hHl⟩ : ∃ H, H = ((wD)).heap.size ∧ wr.heap.size ≤ H := ⟨_, rfl, hb.size⟩
        have hb : Below wr.heap.size wr ((wD).alloc (.cells #[.slice none 0 0, .slice none 0 0] 30)) := hb.alloc hb.size _
        rw [← hHe] at hH
        simp only [← hHe]
        clear hHe
        refine hK.out _ _ ?_ (fun hHeld => ?_)
        · exact hS5 _ hb
        clear hK K
        try simp only [Act.put, List.getElem_toArray, List.getElem_cons_succ, List.getElem_cons_zero, List.setIfInBounds_toArray, List.set_cons_zero, List.set_cons_succ]
        refine wpAnyH_ready (rs := [11]) (by kernel_rfl) (by simp) (AllReadyH.cons rfl (fun K hK => ?_) AllReadyH.nil)
        have g0 := hH.cell 0
        have g1 := hH.cell 1
        have gf := fun i => hH.frozen i
        go_simp
        clear g0 g1 gf
        have hF1 := own_farN (own_farN hF1 (p := ⟨H, 0, none⟩) (own_notN hF1 hH (by decide)) (.slice A6 n6 c6)) (p := ⟨H, 1, none⟩) (own_notN (own_farN hF1 (p := ⟨H, 0, none⟩) (own_notN hF1 hH (by decide)) (.slice A6 n6 c6)) (hH.set_ 0 (.slice A6 n6 c6)) (by decide)) (.slice A7 n7 c7)
        have hF2 := own_farN (own_farN hF2 (p := ⟨H, 0, none⟩) (own_notN hF2 hH (by decide)) (.slice A6 n6 c6)) (p := ⟨H, 1, none⟩) (own_notN (own_farN hF2 (p := ⟨H, 0, none⟩) (own_notN hF2 hH (by decide)) (.slice A6 n6 c6)) (hH.set_ 0 (.slice A6 n6 c6)) (by decide)) (.slice A7 n7 c7)
        have hH := (hH.set_ 0 (.slice A6 n6 c6)).set_ 1 (.slice A7 n7 c7)
        have hb := (hb.setCell (p := ⟨H, 0, none⟩) hHl (.slice A6 n6 c6)).setCell (p := ⟨H, 1, none⟩) hHl (.slice A7 n7 c7)
        refine hK.out _ _ ?_ (fun hHeld => ?_)
        · exact hS5 _ hb
        clear hK K
        try simp only [Act.put, List.getElem_toArray, List.getElem_cons_succ, List.getElem_cons_zero, List.setIfInBounds_toArray, List.set_cons_zero, List.set_cons_succ]
        refine wpAnyH_take (i := 12) (v := ?_) rfl (by kernel_rfl) (by kernel_rfl) (by kernel_rfl) (fun _ _ _ h => h) (Or.inl ⟨by rfl, ?hy⟩) (by assumption) ?_
        case hy => (intro w hSw; (try dsimp only at hSw); go_simp; all_goals with_reducible rfl)
        try simp only [Act.put, List.getElem_toArray, List.getElem_cons_succ, List.getElem_cons_zero, List.setIfInBounds_toArray, List.set_cons_zero, List.set_cons_succ]
        refine wpAnyH_take (i := 13) (v := ?_) rfl (by kernel_rfl) (by kernel_rfl) (by kernel_rfl) (fun _ _ _ h => h) (Or.inl ⟨by rfl, ?hy⟩) (by assumption) ?_
        case hy => (intro w hSw; (try dsimp only at hSw); go_simp; all_goals with_reducible rfl)
        try simp only [Act.put, List.getElem_toArray, List.getElem_cons_succ, List.getElem_cons_zero, List.setIfInBounds_toArray, List.set_cons_zero, List.set_cons_succ]
        refine wpAnyH_done (by kernel_rfl) ?_ _
        obtain ⟨w5, hw5⟩ : ∃ w5, w5 = ((((wD).alloc (.cells #[.slice none 0 0, .slice none 0 0] 30)).setCell ⟨H, 0, none⟩ (.slice A6 n6 c6)).setCell ⟨H, 1, none⟩ (.slice A7 n7 c7)) := ⟨_, rfl⟩
        rw [← hw5] at hb hH hF1 hF2
        rw [← hw5]
        clear hw5 hHeld
        have hD5 := hK6.below hb hK6.lt
        have hC5 := hC.below hb
        have hM5 := hM.trans (MK.of hb)
        have hL5 : Hid (doS (playS (l.take t)).1 (playS (l.take t)).2 x = (playS (l.take (t + 1))).1 ∧ doN (playS (l.take t)).1 (playS (l.take t)).2 x = (playS (l.take (t + 1))).2) := by rw [HPS.out]; exact ⟨rfl, rfl⟩
        rw [hL5.out.1] at hF1
        rw [hL5.out.2] at hF2
        have g0 : w5.cell? ⟨H, 0, none⟩ = some (.slice A6 n6 c6) := hH.cell 0
        have g1 : w5.cell? ⟨H, 1, none⟩ = some (.slice A7 n7 c7) := hH.cell 1
        have q0 := hD5.cell 0
        have q1 := hD5.cell 1
        have qf := fun i => hD5.frozen i
        go_simp
        go_upto_region 7 with (fail)
        have hF1 := own_farN (own_farN hF1 (p := ⟨w.heap.size + 1, 0, none⟩) (own_notN hF1 hD5 (by decide)) (.slice A6 n6 c6)) (p := ⟨w.heap.size + 1, 1, none⟩) (own_notN (own_farN hF1 (p := ⟨w.heap.size + 1, 0, none⟩) (own_notN hF1 hD5 (by decide)) (.slice A6 n6 c6)) (hD5.set_ 0 (.slice A6 n6 c6)) (by decide)) (.slice A7 n7 c7)
        have hF2 := own_farN (own_farN hF2 (p := ⟨w.heap.size + 1, 0, none⟩) (own_notN hF2 hD5 (by decide)) (.slice A6 n6 c6)) (p := ⟨w.heap.size + 1, 1, none⟩) (own_notN (own_farN hF2 (p := ⟨w.heap.size + 1, 0, none⟩) (own_notN hF2 hD5 (by decide)) (.slice A6 n6 c6)) (hD5.set_ 0 (.slice A6 n6 c6)) (by decide)) (.slice A7 n7 c7)
        have hD6 := (hD5.set_ 0 (.slice A6 n6 c6)).set_ 1 (.slice A7 n7 c7)
        have hC6 := (hC5.set (i := 0) hD5 (.slice A6 n6 c6) (by decide)).set (i := 1) (hD5.set_ 0 (.slice A6 n6 c6)) (.slice A7 n7 c7) (by decide)
        have hb6 := (hb.mono hBz).setCell (p := ⟨w.heap.size + 1, 0, none⟩) (Nat.le_succ _) (.slice A6 n6 c6) |>.setCell (p := ⟨w.heap.size + 1, 1, none⟩) (Nat.le_succ _) (.slice A7 n7 c7)
        have hM6 := hM.mid hb6
        have hK4' := ((hK4.below hb hK4.lt).far (p := ⟨w.heap.size + 1, 0, none⟩) (Nat.ne_of_lt (Nat.lt_succ_self _)) (.slice A6 n6 c6)).far (p := ⟨w.heap.size + 1, 1, none⟩) (Nat.ne_of_lt (Nat.lt_succ_self _)) (.slice A7 n7 c7)
        have a0 := (hb6.cell (p := ⟨b, o + t * 3, none⟩) hbb).trans HA.out.1
        have a1 := (hb6.cell (p := ⟨b, o + t * 3 + 1, none⟩) hbb).trans HA.out.2.1
        have a2 := (hb6.cell (p := ⟨b, o + t * 3 + 2, none⟩) hbb).trans HA.out.2.2
        clear g0 g1 q0 q1 qf hD5 hC5 hM5 hH hb hb6
        generalize (w5.setCell ⟨w.heap.size + 1, 0, none⟩ (.slice A6 n6 c6)).setCell ⟨w.heap.size + 1, 1, none⟩ (.slice A7 n7 c7) = w6 at *
        have hD6 : Blk w6 (w.heap.size + 1) 30 #[.slice A6 n6 c6, .slice A7 n7 c7] := hD6
        have hs1 : ((doD x).toList != (doD x).toList) = false := bne_self_eq_false _
        have hs2 : (((doE (playS (l.take t)).2 x : Nat) : Int) != ((doE (playS (l.take t)).2 x : Nat) : Int)) = false := bne_self_eq_false _
        go_wp2_with (first
          | (go_at_call 21; go_must (refine (ldo_any (x := x) w6 hC6 hx.1 hx.2 hxs hll.out).mono ?_; rintro e w7 ⟨rfl, hC7, hM7⟩))
          | fail)
        go_roundw
        case rel =>
          rw [hL5.out.1, hL5.out.2] at hC7
          exact ⟨t + 1, A6, n6, c6, A7, n7, c7, by omega, by simp, hC7, hC6.blk hM7 hD6, hC6.blk hM7 hK4', EOwn.mk hC6 hM7 hF1, EOwn.mk hC6 hM7 hF2, hM6.trans hM7⟩
        case measure => simp [intOf]; omega
      · go_simp
        have hH := Blk.new (wr.drew) 30 #[.slice none 0 0, .slice none 0 0]
        have hb : Below wr.heap.size wr (wr.drew.alloc (.cells #[.slice none 0 0, .slice none 0 0] 30)) := hb.alloc hb.size _
        obtain ⟨H, hHe, hHl⟩ : ∃ H, H = wr.heap.size ∧ wr.heap.size ≤ H := ⟨_, rfl, Nat.le_refl _⟩
        have hH : Blk (wr.drew.alloc (.cells #[.slice none 0 0, .slice none 0 0] 30)) wr.heap.size 30 #[.slice none 0 0, .slice none 0 0] := hH
        rw [← hHe] at hH
        simp only [← hHe]
        clear hHe
        refine hK.out _ _ ?_ (fun hHeld => ?_)
        · exact hS5 _ hb
        clear hK K
        try simp only [Act.put, List.getElem_toArray, List.getElem_cons_succ, List.getElem_cons_zero, List.setIfInBounds_toArray, List.set_cons_zero, List.set_cons_succ]
        refine wpAnyH_ready (rs := [5]) (by kernel_rfl) (by simp) (AllReadyH.cons rfl (fun K hK => ?_) AllReadyH.nil)
        go_simp
        (go_at_call 20; go_must (refine (rdo_any (x := x) _ (own_below hE1 hb) (own_below hE2 hb) (Nat.le_trans hBz hb.size) hn1 hn2 hx.1 hx.2 hxs hxn).mono ?_; rintro e wD ⟨A6, n6, c6, A7, n7, c7, rfl, hF1, hF2, hbD⟩))
        have hb := hb.trans (hbD.mono hb.size)
        (try have hH := hH.below hbD hH.lt)
        refine hK.out _ _ ?_ (fun hHeld => ?_)
        · exact hS5 _ hb
        clear hK K
        try simp only [Act.put, List.getElem_toArray, List.getElem_cons_succ, List.getElem_cons_zero, List.setIfInBounds_toArray, List.set_cons_zero, List.set_cons_succ]
        refine wpAnyH_take (i := 6) (v := ?_) rfl (by kernel_rfl) (by kernel_rfl) (by kernel_rfl) (fun _ _ _ h => h) (Or.inl ⟨by rfl, ?hy⟩) (by assumption) ?_
        case hy => (intro w hSw; (try dsimp only at hSw); go_simp; all_goals with_reducible rfl)
        try simp only [Act.put, List.getElem_toArray, List.getElem_cons_succ, List.getElem_cons_zero, List.setIfInBounds_toArray, List.set_cons_zero, List.set_cons_succ]
        refine wpAnyH_take (i := 7) (v := ?_) rfl (by kernel_rfl) (by kernel_rfl) (by kernel_rfl) (fun _ _ _ h => h) (Or.inl ⟨by rfl, ?hy⟩) (by assumption) ?_
        case hy => (intro w hSw; (try dsimp only at hSw); go_simp; all_goals with_reducible rfl)
        try simp only [Act.put, List.getElem_toArray, List.getElem_cons_succ, List.getElem_cons_zero, List.setIfInBounds_toArray, List.set_cons_zero, List.set_cons_succ]
        refine wpAnyH_take (i := 8) (v := ?_) rfl (by kernel_rfl) (by kernel_rfl) (by kernel_rfl) (fun _ _ _ h => h) (Or.inl ⟨by rfl, ?hy⟩) (by assumption) ?_
        case hy => (intro w hSw; (try dsimp only at hSw); go_simp; all_goals with_reducible rfl)
        try simp only [Act.put, List.getElem_toArray, List.getElem_cons_succ, List.getElem_cons_zero, List.setIfInBounds_toArray, List.set_cons_zero, List.set_cons_succ]
        refine wpAnyH_take (i := 9) (v := ?_) rfl (by kernel_rfl) (by kernel_rfl) (by kernel_rfl) (fun _ _ _ h => h) (Or.inl ⟨by rfl, ?hy⟩) (by assumption) ?_
        case hy => (intro w hSw; (try dsimp only at hSw); go_simp; all_goals with_reducible rfl)
        try simp only [Act.put, List.getElem_toArray, List.getElem_cons_succ, List.getElem_cons_zero, List.setIfInBounds_toArray, List.set_cons_zero, List.set_cons_succ]
        refine wpAnyH_ready (rs := [11]) (by kernel_rfl) (by simp) (AllReadyH.cons rfl (fun K hK => ?_) AllReadyH.nil)
        have g0 := hH.cell 0
        have g1 := hH.cell 1
        have gf := fun i => hH.frozen i
        go_simp
        clear g0 g1 gf
        have hF1 := own_farN (own_farN hF1 (p := ⟨H, 0, none⟩) (own_notN hF1 hH (by decide)) (.slice A6 n6 c6)) (p := ⟨H, 1, none⟩) (own_notN (own_farN hF1 (p := ⟨H, 0, none⟩) (own_notN hF1 hH (by decide)) (.slice A6 n6 c6)) (hH.set_ 0 (.slice A6 n6 c6)) (by decide)) (.slice A7 n7 c7)
        have hF2 := own_farN (own_farN hF2 (p := ⟨H, 0, none⟩) (own_notN hF2 hH (by decide)) (.slice A6 n6 c6)) (p := ⟨H, 1, none⟩) (own_notN (own_farN hF2 (p := ⟨H, 0, none⟩) (own_notN hF2 hH (by decide)) (.slice A6 n6 c6)) (hH.set_ 0 (.slice A6 n6 c6)) (by decide)) (.slice A7 n7 c7)
        have hH := (hH.set_ 0 (.slice A6 n6 c6)).set_ 1 (.slice A7 n7 c7)
        have hb := (hb.setCell (p := ⟨H, 0, none⟩) hHl (.slice A6 n6 c6)).setCell (p := ⟨H, 1, none⟩) hHl (.slice A7 n7 c7)
        refine hK.out _ _ ?_ (fun hHeld => ?_)
        · exact hS5 _ hb
        clear hK K
        try simp only [Act.put, List.getElem_toArray, List.getElem_cons_succ, List.getElem_cons_zero, List.setIfInBounds_toArray, List.set_cons_zero, List.set_cons_succ]
        refine wpAnyH_take (i := 12) (v := ?_) rfl (by kernel_rfl) (by kernel_rfl) (by kernel_rfl) (fun _ _ _ h => h) (Or.inl ⟨by rfl, ?hy⟩) (by assumption) ?_
        case hy => (intro w hSw; (try dsimp only at hSw); go_simp; all_goals with_reducible rfl)
        try simp only [Act.put, List.getElem_toArray, List.getElem_cons_succ, List.getElem_cons_zero, List.setIfInBounds_toArray, List.set_cons_zero, List.set_cons_succ]
        refine wpAnyH_take (i := 13) (v := ?_) rfl (by kernel_rfl) (by kernel_rfl) (by kernel_rfl) (fun _ _ _ h => h) (Or.inl ⟨by rfl, ?hy⟩) (by assumption) ?_
        case hy => (intro w hSw; (try dsimp only at hSw); go_simp; all_goals with_reducible rfl)
        try simp only [Act.put, List.getElem_toArray, List.getElem_cons_succ, List.getElem_cons_zero, List.setIfInBounds_toArray, List.set_cons_zero, List.set_cons_succ]
        refine wpAnyH_done (by kernel_rfl) ?_ _
        obtain ⟨w5, hw5⟩ : ∃ w5, w5 = (((wD).setCell ⟨H, 0, none⟩ (.slice A6 n6 c6)).setCell ⟨H, 1, none⟩ (.slice A7 n7 c7)) := ⟨_, rfl⟩
        rw [← hw5] at hb hH hF1 hF2
        rw [← hw5]
        clear hw5 hHeld
        have hD5 := hK6.below hb hK6.lt
        have hC5 := hC.below hb
        have hM5 := hM.trans (MK.of hb)
        have hL5 : Hid (doS (playS (l.take t)).1 (playS (l.take t)).2 x = (playS (l.take (t + 1))).1 ∧ doN (playS (l.take t)).1 (playS (l.take t)).2 x = (playS (l.take (t + 1))).2) := by rw [HPS.out]; exact ⟨rfl, rfl⟩
        rw [hL5.out.1] at hF1
        rw [hL5.out.2] at hF2
        have g0 : w5.cell? ⟨H, 0, none⟩ = some (.slice A6 n6 c6) := hH.cell 0
        have g1 : w5.cell? ⟨H, 1, none⟩ = some (.slice A7 n7 c7) := hH.cell 1
        have q0 := hD5.cell 0
        have q1 := hD5.cell 1
        have qf := fun i => hD5.frozen i
        go_simp
        go_upto_region 7 with (fail)
        have hF1 := own_farN (own_farN hF1 (p := ⟨w.heap.size + 1, 0, none⟩) (own_notN hF1 hD5 (by decide)) (.slice A6 n6 c6)) (p := ⟨w.heap.size + 1, 1, none⟩) (own_notN (own_farN hF1 (p := ⟨w.heap.size + 1, 0, none⟩) (own_notN hF1 hD5 (by decide)) (.slice A6 n6 c6)) (hD5.set_ 0 (.slice A6 n6 c6)) (by decide)) (.slice A7 n7 c7)
        have hF2 := own_farN (own_farN hF2 (p := ⟨w.heap.size + 1, 0, none⟩) (own_notN hF2 hD5 (by decide)) (.slice A6 n6 c6)) (p := ⟨w.heap.size + 1, 1, none⟩) (own_notN (own_farN hF2 (p := ⟨w.heap.size + 1, 0, none⟩) (own_notN hF2 hD5 (by decide)) (.slice A6 n6 c6)) (hD5.set_ 0 (.slice A6 n6 c6)) (by decide)) (.slice A7 n7 c7)
        have hD6 := (hD5.set_ 0 (.slice A6 n6 c6)).set_ 1 (.slice A7 n7 c7)
        have hC6 := (hC5.set (i := 0) hD5 (.slice A6 n6 c6) (by decide)).set (i := 1) (hD5.set_ 0 (.slice A6 n6 c6)) (.slice A7 n7 c7) (by decide)
        have hb6 := (hb.mono hBz).setCell (p := ⟨w.heap.size + 1, 0, none⟩) (Nat.le_succ _) (.slice A6 n6 c6) |>.setCell (p := ⟨w.heap.size + 1, 1, none⟩) (Nat.le_succ _) (.slice A7 n7 c7)
        have hM6 := hM.mid hb6
        have hK4' := ((hK4.below hb hK4.lt).far (p := ⟨w.heap.size + 1, 0, none⟩) (Nat.ne_of_lt (Nat.lt_succ_self _)) (.slice A6 n6 c6)).far (p := ⟨w.heap.size + 1, 1, none⟩) (Nat.ne_of_lt (Nat.lt_succ_self _)) (.slice A7 n7 c7)
        have a0 := (hb6.cell (p := ⟨b, o + t * 3, none⟩) hbb).trans HA.out.1
        have a1 := (hb6.cell (p := ⟨b, o + t * 3 + 1, none⟩) hbb).trans HA.out.2.1
        have a2 := (hb6.cell (p := ⟨b, o + t * 3 + 2, none⟩) hbb).trans HA.out.2.2
        clear g0 g1 q0 q1 qf hD5 hC5 hM5 hH hb hb6
        generalize (w5.setCell ⟨w.heap.size + 1, 0, none⟩ (.slice A6 n6 c6)).setCell ⟨w.heap.size + 1, 1, none⟩ (.slice A7 n7 c7) = w6 at *
        have hD6 : Blk w6 (w.heap.size + 1) 30 #[.slice A6 n6 c6, .slice A7 n7 c7] := hD6
        have hs1 : ((doD x).toList != (doD x).toList) = false := bne_self_eq_false _
        have hs2 : (((doE (playS (l.take t)).2 x : Nat) : Int) != ((doE (playS (l.take t)).2 x : Nat) : Int)) = false := bne_self_eq_false _
        go_wp2_with (first
          | (go_at_call 21; go_must (refine (ldo_any (x := x) w6 hC6 hx.1 hx.2 hxs hll.out).mono ?_; rintro e w7 ⟨rfl, hC7, hM7⟩))
          | fail)
        go_roundw
        case rel =>
          rw [hL5.out.1, hL5.out.2] at hC7
          exact ⟨t + 1, A6, n6, c6, A7, n7, c7, by omega, by simp, hC7, hC6.blk hM7 hD6, hC6.blk hM7 hK4', EOwn.mk hC6 hM7 hF1, EOwn.mk hC6 hM7 hF2, hM6.trans hM7⟩
        case measure => simp [intOf]; omega
    · have htI : ¬ (t : Int) < (n : Int) := by omega
      obtain rfl : t = n := by omega
      rw [List.take_of_length_le (by rw [HL.out]; exact Nat.le_refl _)] at hC hE1 hE2
      have q0 := hK6.cell 0
      have q1 := hK6.cell 1
      have p0 := hK4.cell 0
      have p1 := hK4.cell 1
      have pf := fun i => hK4.frozen i
      clear hll hlen hr hwh
      go_wp2_with fail
      have hqz := (hK4.set_ 0 (.slice A1 n1 c1)).set_ 1 (.slice A2 n2 c2)
      have hb6 := ((Below.refl w.heap.size wr).setCell (p := ⟨w.heap.size, 0, none⟩) (Nat.le_refl _) (.slice A1 n1 c1)).setCell (p := ⟨w.heap.size, 1, none⟩) (Nat.le_refl _) (.slice A2 n2 c2)
      refine bodyPost_cell_tmp Try.results12 (g := w.heap.size) (x := .bool true) rfl rfl hqz Try.underlying30 rfl (by kernel_rfl) rfl ⟨A1, n1, c1, A2, n2, c2, rfl, (hC.set hK4 _ (by decide)).set (hK4.set_ 0 (.slice A1 n1 c1)) _ (by decide), ?_, ?_, hM.mid hb6⟩
      · exact own_farN (own_farN hE1 (p := ⟨w.heap.size, 0, none⟩) (own_notN hE1 hK4 (by decide)) (.slice A1 n1 c1)) (p := ⟨w.heap.size, 1, none⟩) (own_notN (own_farN hE1 (p := ⟨w.heap.size, 0, none⟩) (own_notN hE1 hK4 (by decide)) (.slice A1 n1 c1)) (hK4.set_ 0 (.slice A1 n1 c1)) (by decide)) (.slice A2 n2 c2)
      · exact own_farN (own_farN hE2 (p := ⟨w.heap.size, 0, none⟩) (own_notN hE2 hK4 (by decide)) (.slice A1 n1 c1)) (p := ⟨w.heap.size, 1, none⟩) (own_notN (own_farN hE2 (p := ⟨w.heap.size, 0, none⟩) (own_notN hE2 hK4 (by decide)) (.slice A1 n1 c1)) (hK4.set_ 0 (.slice A1 n1 c1)) (by decide)) (.slice A2 n2 c2)
end Go.Proofs.Ythfgblchlgodmaa
