/- The walk of room: a full ring is laid anew. Conditions: those of each theorem. -/
import Derived.Test.YtlglelgnpkdnbaaDqE
namespace Go.Proofs.Ytlglelgnpkdnbaa
open Go.RowKit Go.Shelf
set_option linter.unusedVariables false
attribute [local go_sem] Oper.semAt_some

theorem keepsCells_set {B g o : Nat} {v : Value} {W : World} (hg : g < B) : KeepsCells B W (W.setCell ⟨g, o, none⟩ v) := ⟨by simp, fun b q u hb hu => by
  rw [World.cell?_setCell_other W ⟨g, o, none⟩ ⟨b, q, none⟩ v (fun e => by injection e with e; omega)]; exact hu⟩
theorem room_any_free {g : Nat} (A : Option Addr) (len cap first n : Nat) (w : World) (h : Blk w g 57 (dcells A len cap first n)) (hn : n < len) :
    Calls Try.prog 46 #[.pointer (some ⟨g, 0, none⟩)] w fun e w' => (∃ v, e = .returned v) ∧ ∃ m, w' = w.drewN m := by
  have h0 := h.cell 0
  have h2 := h.cell 2
  rw [show (dcells A len cap first n)[0]? = some (.slice A len cap) from rfl] at h0
  rw [show (dcells A len cap first n)[2]? = some (.int .i64 n) from rfl] at h2
  have hI : (n : Int) < (len : Int) := by omega
  go_enter Try.func46, Try.ntmps46
  go_wp2_with fail
  go_quiet (fail)
  go_wp2_with fail
  exact bodyPost_ret (results_none rfl _ _ _) rfl ⟨⟨_, rfl⟩, _, rfl⟩


set_option maxHeartbeats 2000000 in
theorem room_big {B g : Nat} (A : Option Addr) (len cap first n : Nat) (ring l : List ByteArray) (w : World) (h : DQx B w g A len cap first n ring l) (hB : B ≤ w.heap.size) (hn : n = len) (h6 : n ≤ 65536) (h2 : 2 < n) :
    Calls Try.prog 46 #[.pointer (some ⟨g, 0, none⟩)] w fun e w' => (∃ v, e = .returned v) ∧ (∃ gM ring', DQx B w' g (some ⟨gM, 0, none⟩) (2 * n) (2 * n) 0 n ring' l ∧ w.heap.size ≤ gM) ∧ Below B w w' ∧ (∀ k, k < w.heap.size → k ≠ g → w'.heap[k]? = w.heap[k]?) := by
  obtain ⟨hBk, hg, hown, hl, hnl, hlen, hfirst, hfl, hring⟩ := id h
  have h0 := hBk.cell 0
  have h2' := hBk.cell 2
  rw [show (dcells A len cap first n)[0]? = some (.slice A len cap) from rfl] at h0
  rw [show (dcells A len cap first n)[2]? = some (.int .i64 n) from rfl] at h2'
  subst hn
  have hI : ¬ (n : Int) < (n : Int) := by omega
  have hw : IntKind.i64.wrap (2 * (n : Int)) = 2 * (n : Int) := by rw [IntKind.wrap_i64]; omega
  have h4 : (4 : Int) < 2 * (n : Int) := by omega
  refine (callsIn_wide (n := 5)).1 ?_
  refine callsIn_of_wp_marks Try.func46 rfl trivial ?_ rfl
  simp only [Try.ntmps46, List.size_toArray, List.length_cons, List.length_nil, Nat.reduceAdd, Nat.reduceSub, Array.replicate_succ, Array.replicate_zero, List.push_toArray, List.append_toArray, List.nil_append, List.cons_append]
  refine wpIn_wide.2 ?_
  go_wp2_with fail
  go_quiet (fail)
  have hX : DQx B (w.drewN nq) g A n cap first n ring l := h.below (below_drewN (Below.refl _ _) _)
  have hbX : Below w.heap.size w (w.drewN nq) := below_drewN (Below.refl _ _) _
  have h0' : (w.drewN nq).cell? ⟨g, 0, none⟩ = some (.slice A n cap) := h0
  have h2'' : (w.drewN nq).cell? ⟨g, 2, none⟩ = some (.int .i64 n) := h2'
  generalize w.drewN nq = w0 at *
  go_wp2_with (first
    | (refine wpList_make rfl (.tmp 20) (.tmp 20) 29 rfl str_ok rfl Try.underlying29 (n := 2 * n) (c := 2 * n) (show Value.int .i64 (2 * (n : Int)) = .int .i64 ((2 * n : Nat) : Int) by simp) (show Value.int .i64 (2 * (n : Int)) = .int .i64 ((2 * n : Nat) : Int) by simp) (Nat.le_refl _) (by omega) (by unfold maxLen; omega) ?_
       intro w1 hb1 hs1 hk1 _
       obtain ⟨M, hM⟩ : ∃ M, 2 * n = M := ⟨_, rfl⟩
       have HM := hide hM
       rw [hM] at hk1
       rw [hM]
       clear hM
       have hX1 := hX.below hb1)
    | (go_at_call 37
       go_must (
       have hX2 := hX1.below ((Below.refl _ w1).alloc (Nat.le_refl _) (.cells #[.slice (some ⟨w0.heap.size, 0, none⟩) M M] 29))
       have hk2 := hk1.alloc (.cells #[.slice (some ⟨w0.heap.size, 0, none⟩) M M] 29)
       have hv2 := Blk.new w1 29 #[.slice (some ⟨w0.heap.size, 0, none⟩) M M]
       have hb2 : Below w0.heap.size w0 (w1.alloc (.cells #[.slice (some ⟨w0.heap.size, 0, none⟩) M M] 29)) := hb1.alloc hb1.size _
       have hs2 : (w1.alloc (.cells #[.slice (some ⟨w0.heap.size, 0, none⟩) M M] 29)).heap.size = w0.heap.size + 2 := by simp [hs1]
       rw [hs1] at hv2
       generalize w1.alloc (.cells #[.slice (some ⟨w0.heap.size, 0, none⟩) M M] 29) = W2 at *
       refine (all_any W2 ⟨A, n, cap, first, ring, by rw [hl]; exact hX2⟩).mono ?_
       rintro e W3 ⟨bx, v, rfl, hbx, hkx, hox, hb3⟩))
    | fail)
  have hgW : g < w.heap.size := hBk.lt
  have hMle : n ≤ M := by have := HM.out; omega
  have hgM2 : w0.heap.size + 1 < W2.heap.size := by omega
  have hwgM : w.heap.size ≤ w0.heap.size := hbX.size
  generalize w0.heap.size = gM at *
  obtain ⟨A', cap', rfl, hcap', hcm'⟩ := own_slice hox
  have hbxc := hkx.cell 0
  rw [show (#[Value.slice A' l.length cap'] : Array Value)[0]? = some (.slice A' l.length cap') from rfl, hl] at hbxc
  have hhi : HiT W2.heap.size W3 A' n l := by
    rw [hl] at hox
    refine ⟨Reads.of_own hox, fun b o e => ?_⟩
    subst e
    exact (hox.lt b rfl).1
  have hbW3 : Below w.heap.size w W3 := hbX.trans (((hb2.mono hwgM)).trans (hb3.mono (by omega)))
  have hk3 := hk2.below hb3 (by omega)
  have hv3 := hv2.below hb3 (by omega)
  have hn200 : n ≤ 200000 := by omega
  have hl3 : ∀ i, i < n → ∃ s, l[i]? = some s := fun i hi => ⟨l[i], List.getElem?_eq_getElem (by omega)⟩
  refine (wpIn_wide (n := 5)).1 ?_
  refine range_told rfl (by omega) (gf := 43) (lb := #[.pointer (some ⟨bx, 0, none⟩)]) rfl trivial (enters_of Try.func43 (by kernel_rfl) rfl)
    (all1_told _ bx A' n cap' l W2.heap.size W3 hbxc hkx.lt hbx hhi hn200) KeepsCells.trans (fun W k o o' _ h hc _ => keeps_putObj W k o o' h hc) (fun _ => rfl)
    (fun pre W => (∃ cs : List ByteArray, cs.length = M ∧ Blk W gM 9 (svs cs).toArray ∧ ∀ x ∈ pre, l[x.1]? = some x.2 ∧ cs[x.1]? = some x.2) ∧ Blk W (gM + 1) 29 #[.slice (some ⟨gM, 0, none⟩) M M] ∧ Below w.heap.size w W ∧ W3.heap.size ≤ W.heap.size) ?own (fun x A B row hs hg hr => hs) ⟨⟨List.replicate M ⟨#[]⟩, by simp, by simpa [svs] using hk3, fun x hx => by cases hx⟩, hv3, hbW3, Nat.le_refl _⟩
    (fun x => { tmps := #[(Value.pointer (some ⟨g, 0, none⟩)), undef, (.pointer (some ⟨gM + 1, 0, none⟩)), (.int .i64 x.1), (.string x.2), (Value.pointer (some ⟨g, 0, none⟩)), (Value.pointer (some ⟨g, 0, none⟩)), (.pointer (some ⟨g, 2, none⟩)), (.int .i64 n), (Value.pointer (some ⟨g, 0, none⟩)), (Value.pointer (some ⟨g, 0, none⟩)), (Value.pointer (some ⟨g, 0, none⟩)), (.slice A n cap), (.int .i64 n), (.bool false), (Value.pointer (some ⟨g, 0, none⟩)), (Value.pointer (some ⟨g, 0, none⟩)), (.pointer (some ⟨g, 2, none⟩)), (.int .i64 n), (.int .i64 (2 * (n : Int))), (.int .i64 (2 * (n : Int))), (.slice (some ⟨gM, 0, none⟩) M M), (Value.pointer (some ⟨g, 0, none⟩)), (.func (.func 43) #[] #[.pointer (some ⟨bx, 0, none⟩)]), (.int .i64 x.1), (.string x.2), undef, undef, undef, undef, undef, undef, undef, undef, undef, undef, undef], defers := [] }) ?assign ?body ?done
  case own =>
    intro pre A1 B1 row hs hgr hr
    have hrow : ∀ (k : Nat) (t : TypeId) (cs : Array Value), Blk A1 k t cs → some k ≠ row := fun k t cs hk e => by
      obtain ⟨ob, hob, hc⟩ := (hr k e.symm).2
      unfold Blk at hk
      rw [hk] at hob
      injection hob with hob
      subst hob
      cases hc
    obtain ⟨⟨cs, h1, h2, h3⟩, h4, h5, h6⟩ := hs
    exact ⟨⟨cs, h1, h2.grown hgr (hrow _ _ _ h2), h3⟩, h4.grown hgr (hrow _ _ _ h4), h5.grown hgr h5.size (fun k e => Nat.le_trans hbW3.size (hr k e).1), Nat.le_trans h6 hgr.size⟩
  case assign =>
    intro k x W K hK
    unfold encN
    gi_wp2
    exact hK
  case body =>
    rintro lp pre x W ⟨⟨cs, h1, h2, h3⟩, h4, h5, h6⟩ hrx
    have hxn : x.1 < n := by have := (List.getElem?_eq_some_iff.1 hrx).1; omega
    have hxM : (x.1 : Int) < (M : Int) := by omega
    have hx0 : (0 : Int) ≤ (x.1 : Int) := by omega
    have q0 := h4.cell 0
    rw [show (#[Value.slice (some ⟨gM, 0, none⟩) M M] : Array Value)[0]? = some (.slice (some ⟨gM, 0, none⟩) M M) from rfl] at q0
    have q1 := h2.cell x.1
    rw [show (svs cs).toArray[x.1]? = (svs cs)[x.1]? by simp, svs_at, List.getElem?_eq_getElem (by omega : x.1 < cs.length), Option.map_some] at q1
    have qf := h2.frozen x.1
    gi_wp2_with fail
    refine ⟨(KeepsOthers.setCell _ _ _).from _, keepsCells_set (by omega), ⟨cs.set x.1 x.2, by simpa using h1, ?_, ?_⟩, h4.far (by simp) _, h5.setCell (by simp; omega) _, by simpa using h6⟩
    · have hst := h2.set_ x.1 (.string x.2)
      rw [show (svs cs).toArray.setIfInBounds x.1 (.string x.2) = (svs (cs.set x.1 x.2)).toArray by simp [svs, List.map_set]] at hst
      exact hst
    · intro y hy
      rcases List.mem_append.1 hy with hy | hy
      · obtain ⟨a1, a2⟩ := h3 y hy
        refine ⟨a1, ?_⟩
        rw [List.getElem?_set]
        by_cases he : x.1 = y.1
        · rw [if_pos he, if_pos (by omega)]
          rw [he, a1] at hrx
          exact hrx.symm
        · rw [if_neg he]; exact a2
      · obtain rfl : y = x := by simpa using hy
        exact ⟨hrx, by rw [List.getElem?_set]; simp; omega⟩
  case done =>
    rintro D xs W hD hS ⟨⟨cs, h1, h2, h3⟩, h4, h5, h6⟩ hK
    have q0 := h4.cell 0
    rw [show (#[Value.slice (some ⟨gM, 0, none⟩) M M] : Array Value)[0]? = some (.slice (some ⟨gM, 0, none⟩) M M) from rfl] at q0
    have hBW := hBk.below h5 hgW
    have f0 := hBW.frozen 0
    have f1 := hBW.frozen 1
    have c0 := hBW.cell 0
    have c1 := hBW.cell 1
    rw [show (dcells A n cap first n)[0]? = some (.slice A n cap) from rfl] at c0
    rw [show (dcells A n cap first n)[1]? = some (.int .i64 first) from rfl] at c1
    go_wp2_with fail
    have hDg : D ≠ g := by have := hbW3.size; omega
    have hDM : D ≠ gM := by have := hb3.size; omega
    have hK1 := (Below.heap_setCell _ ⟨g, 1, none⟩ (.int .i64 0) D (by simpa using hDg)).trans ((Below.heap_setCell W ⟨g, 0, none⟩ (.slice (some ⟨gM, 0, none⟩) M M) D (by simpa using hDg)).trans hK)
    have hB1 : Blk ((W.setCell ⟨g, 0, none⟩ (.slice (some ⟨gM, 0, none⟩) M M)).setCell ⟨g, 1, none⟩ (.int .i64 0)) g 57 (dcells (some ⟨gM, 0, none⟩) M M 0 n) := (hBW.set_ 0 _).set_ 1 _
    have hgMg : gM ≠ g := by omega
    have hM1 := (h2.far (p := ⟨g, 0, none⟩) (by simpa using hgMg) (.slice (some ⟨gM, 0, none⟩) M M)).far (p := ⟨g, 1, none⟩) (by simpa using hgMg) (.int .i64 0)
    have hkeep : ∀ k, k < w.heap.size → k ≠ g → ((W.setCell ⟨g, 0, none⟩ (.slice (some ⟨gM, 0, none⟩) M M)).setCell ⟨g, 1, none⟩ (.int .i64 0)).heap[k]? = w.heap[k]? := fun k hk hkg => (Below.heap_setCell _ ⟨g, 1, none⟩ (.int .i64 0) k (by simpa using hkg)).trans ((Below.heap_setCell W ⟨g, 0, none⟩ (.slice (some ⟨gM, 0, none⟩) M M) k (by simpa using hkg)).trans (h5.block k hk))
    have hb9 : Below B w ((W.setCell ⟨g, 0, none⟩ (.slice (some ⟨gM, 0, none⟩) M M)).setCell ⟨g, 1, none⟩ (.int .i64 0)) := ((h5.mono hB).setCell hg _).setCell hg _
    generalize (W.setCell ⟨g, 0, none⟩ (.slice (some ⟨gM, 0, none⟩) M M)).setCell ⟨g, 1, none⟩ (.int .i64 0) = W9 at *
    have hgr := grownBy_putObj' W9 D (.deferred none)
    have hB2 := hB1.grown hgr (fun e => by cases e; exact hDg rfl)
    have hM2 := hM1.grown hgr (fun e => by cases e; exact hDM rfl)
    have hb10 : Below B w (W9.putObj D (.deferred none)) := hb9.grown hgr (by have := hb9.size; omega) (fun k e => by cases e; have := hbW3.size; omega)
    refine ⟨by simp, .inl ⟨_, _, rfl, run_takeDeferred hK1, ?_⟩⟩
    refine ⟨_, results_none rfl _ _ _, ⟨_, rfl⟩, ⟨gM, cs, ?_, hwgM⟩, hb10, fun k hk hkg => (World.putObj_heap_other (by have := hbW3.size; omega)).trans (hkeep k hk hkg)⟩
    rw [HM.out]
    have hMb : M ≤ 200000 := by have := HM.out; omega
    refine ⟨hB2, hg, ⟨by rw [svs_length, h1, Nat.mul_one], .inr ⟨gM, M, _, rfl, by omega, hM2, Nat.le_refl _, by unfold maxLen; omega, by simp [svs_length, h1], ?_⟩⟩, hl, hMle, by have := HM.out; omega, by omega, by have := HM.out; omega, fun i hi => ?_⟩
    · rw [List.take_of_length_le (by simp [svs_length, h1])]
    · rw [Nat.zero_add, Nat.mod_eq_of_lt (by omega)]
      obtain ⟨s, hs⟩ := hl3 i hi
      have hmem : (i, s) ∈ xs := by
        have e1 : (xs.map (·.1))[i]? = some i := by rw [hS.1, List.getElem?_range (by omega)]
        have e2 : (xs.map (·.2))[i]? = some s := by rw [hS.2]; exact hs
        rw [List.getElem?_map] at e1 e2
        cases hx : xs[i]? with
        | none => rw [hx] at e1; cases e1
        | some x =>
          rw [hx] at e1 e2
          simp at e1 e2
          have : x = (i, s) := by cases x; simp_all
          rw [← this]
          exact List.mem_of_getElem? hx
      obtain ⟨a1, a2⟩ := h3 _ hmem
      rw [a2, hs]
set_option maxHeartbeats 2000000 in
theorem room_small {B g : Nat} (A : Option Addr) (len cap first n : Nat) (ring l : List ByteArray) (w : World) (h : DQx B w g A len cap first n ring l) (hB : B ≤ w.heap.size) (hn : n = len) (h6 : n ≤ 65536) (h2 : n ≤ 2) :
    Calls Try.prog 46 #[.pointer (some ⟨g, 0, none⟩)] w fun e w' => (∃ v, e = .returned v) ∧ (∃ gM ring', DQx B w' g (some ⟨gM, 0, none⟩) 4 4 0 n ring' l ∧ w.heap.size ≤ gM) ∧ Below B w w' ∧ (∀ k, k < w.heap.size → k ≠ g → w'.heap[k]? = w.heap[k]?) := by
  obtain ⟨hBk, hg, hown, hl, hnl, hlen, hfirst, hfl, hring⟩ := id h
  have h0 := hBk.cell 0
  have h2' := hBk.cell 2
  rw [show (dcells A len cap first n)[0]? = some (.slice A len cap) from rfl] at h0
  rw [show (dcells A len cap first n)[2]? = some (.int .i64 n) from rfl] at h2'
  subst hn
  have hI : ¬ (n : Int) < (n : Int) := by omega
  have hw : IntKind.i64.wrap (2 * (n : Int)) = 2 * (n : Int) := by rw [IntKind.wrap_i64]; omega
  have h4 : ¬ (4 : Int) < 2 * (n : Int) := by omega
  refine (callsIn_wide (n := 5)).1 ?_
  refine callsIn_of_wp_marks Try.func46 rfl trivial ?_ rfl
  simp only [Try.ntmps46, List.size_toArray, List.length_cons, List.length_nil, Nat.reduceAdd, Nat.reduceSub, Array.replicate_succ, Array.replicate_zero, List.push_toArray, List.append_toArray, List.nil_append, List.cons_append]
  refine wpIn_wide.2 ?_
  go_wp2_with fail
  go_quiet (fail)
  have hX : DQx B (w.drewN nq) g A n cap first n ring l := h.below (below_drewN (Below.refl _ _) _)
  have hbX : Below w.heap.size w (w.drewN nq) := below_drewN (Below.refl _ _) _
  have h0' : (w.drewN nq).cell? ⟨g, 0, none⟩ = some (.slice A n cap) := h0
  have h2'' : (w.drewN nq).cell? ⟨g, 2, none⟩ = some (.int .i64 n) := h2'
  generalize w.drewN nq = w0 at *
  go_wp2_with (first
    | (refine wpList_make rfl (.tmp 20) (.tmp 20) 29 rfl str_ok rfl Try.underlying29 (n := 4) (c := 4) (by rfl) (by rfl) (Nat.le_refl _) (by omega) (by unfold maxLen; omega) ?_
       intro w1 hb1 hs1 hk1 _
       obtain ⟨M, hM⟩ : ∃ M, 4 = M := ⟨_, rfl⟩
       have HM := hide hM
       rw [hM] at hk1
       rw [hM]
       clear hM
       have hX1 := hX.below hb1)
    | (go_at_call 37
       go_must (
       have hX2 := hX1.below ((Below.refl _ w1).alloc (Nat.le_refl _) (.cells #[.slice (some ⟨w0.heap.size, 0, none⟩) M M] 29))
       have hk2 := hk1.alloc (.cells #[.slice (some ⟨w0.heap.size, 0, none⟩) M M] 29)
       have hv2 := Blk.new w1 29 #[.slice (some ⟨w0.heap.size, 0, none⟩) M M]
       have hb2 : Below w0.heap.size w0 (w1.alloc (.cells #[.slice (some ⟨w0.heap.size, 0, none⟩) M M] 29)) := hb1.alloc hb1.size _
       have hs2 : (w1.alloc (.cells #[.slice (some ⟨w0.heap.size, 0, none⟩) M M] 29)).heap.size = w0.heap.size + 2 := by simp [hs1]
       rw [hs1] at hv2
       generalize w1.alloc (.cells #[.slice (some ⟨w0.heap.size, 0, none⟩) M M] 29) = W2 at *
       refine (all_any W2 ⟨A, n, cap, first, ring, by rw [hl]; exact hX2⟩).mono ?_
       rintro e W3 ⟨bx, v, rfl, hbx, hkx, hox, hb3⟩))
    | fail)
  have hgW : g < w.heap.size := hBk.lt
  have hMle : n ≤ M := by have := HM.out; omega
  have hgM2 : w0.heap.size + 1 < W2.heap.size := by omega
  have hwgM : w.heap.size ≤ w0.heap.size := hbX.size
  generalize w0.heap.size = gM at *
  obtain ⟨A', cap', rfl, hcap', hcm'⟩ := own_slice hox
  have hbxc := hkx.cell 0
  rw [show (#[Value.slice A' l.length cap'] : Array Value)[0]? = some (.slice A' l.length cap') from rfl, hl] at hbxc
  have hhi : HiT W2.heap.size W3 A' n l := by
    rw [hl] at hox
    refine ⟨Reads.of_own hox, fun b o e => ?_⟩
    subst e
    exact (hox.lt b rfl).1
  have hbW3 : Below w.heap.size w W3 := hbX.trans (((hb2.mono hwgM)).trans (hb3.mono (by omega)))
  have hk3 := hk2.below hb3 (by omega)
  have hv3 := hv2.below hb3 (by omega)
  have hn200 : n ≤ 200000 := by omega
  have hl3 : ∀ i, i < n → ∃ s, l[i]? = some s := fun i hi => ⟨l[i], List.getElem?_eq_getElem (by omega)⟩
  refine (wpIn_wide (n := 5)).1 ?_
  refine range_told rfl (by omega) (gf := 43) (lb := #[.pointer (some ⟨bx, 0, none⟩)]) rfl trivial (enters_of Try.func43 (by kernel_rfl) rfl)
    (all1_told _ bx A' n cap' l W2.heap.size W3 hbxc hkx.lt hbx hhi hn200) KeepsCells.trans (fun W k o o' _ h hc _ => keeps_putObj W k o o' h hc) (fun _ => rfl)
    (fun pre W => (∃ cs : List ByteArray, cs.length = M ∧ Blk W gM 9 (svs cs).toArray ∧ ∀ x ∈ pre, l[x.1]? = some x.2 ∧ cs[x.1]? = some x.2) ∧ Blk W (gM + 1) 29 #[.slice (some ⟨gM, 0, none⟩) M M] ∧ Below w.heap.size w W ∧ W3.heap.size ≤ W.heap.size) ?own (fun x A B row hs hg hr => hs) ⟨⟨List.replicate M ⟨#[]⟩, by simp, by simpa [svs] using hk3, fun x hx => by cases hx⟩, hv3, hbW3, Nat.le_refl _⟩
    (fun x => { tmps := #[(Value.pointer (some ⟨g, 0, none⟩)), undef, (.pointer (some ⟨gM + 1, 0, none⟩)), (.int .i64 x.1), (.string x.2), (Value.pointer (some ⟨g, 0, none⟩)), (Value.pointer (some ⟨g, 0, none⟩)), (.pointer (some ⟨g, 2, none⟩)), (.int .i64 n), (Value.pointer (some ⟨g, 0, none⟩)), (Value.pointer (some ⟨g, 0, none⟩)), (Value.pointer (some ⟨g, 0, none⟩)), (.slice A n cap), (.int .i64 n), (.bool false), (Value.pointer (some ⟨g, 0, none⟩)), (Value.pointer (some ⟨g, 0, none⟩)), (.pointer (some ⟨g, 2, none⟩)), (.int .i64 n), (.int .i64 (2 * (n : Int))), (.int .i64 4), (.slice (some ⟨gM, 0, none⟩) M M), (Value.pointer (some ⟨g, 0, none⟩)), (.func (.func 43) #[] #[.pointer (some ⟨bx, 0, none⟩)]), (.int .i64 x.1), (.string x.2), undef, undef, undef, undef, undef, undef, undef, undef, undef, undef, undef], defers := [] }) ?assign ?body ?done
  case own =>
    intro pre A1 B1 row hs hgr hr
    have hrow : ∀ (k : Nat) (t : TypeId) (cs : Array Value), Blk A1 k t cs → some k ≠ row := fun k t cs hk e => by
      obtain ⟨ob, hob, hc⟩ := (hr k e.symm).2
      unfold Blk at hk
      rw [hk] at hob
      injection hob with hob
      subst hob
      cases hc
    obtain ⟨⟨cs, h1, h2, h3⟩, h4, h5, h6⟩ := hs
    exact ⟨⟨cs, h1, h2.grown hgr (hrow _ _ _ h2), h3⟩, h4.grown hgr (hrow _ _ _ h4), h5.grown hgr h5.size (fun k e => Nat.le_trans hbW3.size (hr k e).1), Nat.le_trans h6 hgr.size⟩
  case assign =>
    intro k x W K hK
    unfold encN
    gi_wp2
    exact hK
  case body =>
    rintro lp pre x W ⟨⟨cs, h1, h2, h3⟩, h4, h5, h6⟩ hrx
    have hxn : x.1 < n := by have := (List.getElem?_eq_some_iff.1 hrx).1; omega
    have hxM : (x.1 : Int) < (M : Int) := by omega
    have hx0 : (0 : Int) ≤ (x.1 : Int) := by omega
    have q0 := h4.cell 0
    rw [show (#[Value.slice (some ⟨gM, 0, none⟩) M M] : Array Value)[0]? = some (.slice (some ⟨gM, 0, none⟩) M M) from rfl] at q0
    have q1 := h2.cell x.1
    rw [show (svs cs).toArray[x.1]? = (svs cs)[x.1]? by simp, svs_at, List.getElem?_eq_getElem (by omega : x.1 < cs.length), Option.map_some] at q1
    have qf := h2.frozen x.1
    gi_wp2_with fail
    refine ⟨(KeepsOthers.setCell _ _ _).from _, keepsCells_set (by omega), ⟨cs.set x.1 x.2, by simpa using h1, ?_, ?_⟩, h4.far (by simp) _, h5.setCell (by simp; omega) _, by simpa using h6⟩
    · have hst := h2.set_ x.1 (.string x.2)
      rw [show (svs cs).toArray.setIfInBounds x.1 (.string x.2) = (svs (cs.set x.1 x.2)).toArray by simp [svs, List.map_set]] at hst
      exact hst
    · intro y hy
      rcases List.mem_append.1 hy with hy | hy
      · obtain ⟨a1, a2⟩ := h3 y hy
        refine ⟨a1, ?_⟩
        rw [List.getElem?_set]
        by_cases he : x.1 = y.1
        · rw [if_pos he, if_pos (by omega)]
          rw [he, a1] at hrx
          exact hrx.symm
        · rw [if_neg he]; exact a2
      · obtain rfl : y = x := by simpa using hy
        exact ⟨hrx, by rw [List.getElem?_set]; simp; omega⟩
  case done =>
    rintro D xs W hD hS ⟨⟨cs, h1, h2, h3⟩, h4, h5, h6⟩ hK
    have q0 := h4.cell 0
    rw [show (#[Value.slice (some ⟨gM, 0, none⟩) M M] : Array Value)[0]? = some (.slice (some ⟨gM, 0, none⟩) M M) from rfl] at q0
    have hBW := hBk.below h5 hgW
    have f0 := hBW.frozen 0
    have f1 := hBW.frozen 1
    have c0 := hBW.cell 0
    have c1 := hBW.cell 1
    rw [show (dcells A n cap first n)[0]? = some (.slice A n cap) from rfl] at c0
    rw [show (dcells A n cap first n)[1]? = some (.int .i64 first) from rfl] at c1
    go_wp2_with fail
    have hDg : D ≠ g := by have := hbW3.size; omega
    have hDM : D ≠ gM := by have := hb3.size; omega
    have hK1 := (Below.heap_setCell _ ⟨g, 1, none⟩ (.int .i64 0) D (by simpa using hDg)).trans ((Below.heap_setCell W ⟨g, 0, none⟩ (.slice (some ⟨gM, 0, none⟩) M M) D (by simpa using hDg)).trans hK)
    have hB1 : Blk ((W.setCell ⟨g, 0, none⟩ (.slice (some ⟨gM, 0, none⟩) M M)).setCell ⟨g, 1, none⟩ (.int .i64 0)) g 57 (dcells (some ⟨gM, 0, none⟩) M M 0 n) := (hBW.set_ 0 _).set_ 1 _
    have hgMg : gM ≠ g := by omega
    have hM1 := (h2.far (p := ⟨g, 0, none⟩) (by simpa using hgMg) (.slice (some ⟨gM, 0, none⟩) M M)).far (p := ⟨g, 1, none⟩) (by simpa using hgMg) (.int .i64 0)
    have hkeep : ∀ k, k < w.heap.size → k ≠ g → ((W.setCell ⟨g, 0, none⟩ (.slice (some ⟨gM, 0, none⟩) M M)).setCell ⟨g, 1, none⟩ (.int .i64 0)).heap[k]? = w.heap[k]? := fun k hk hkg => (Below.heap_setCell _ ⟨g, 1, none⟩ (.int .i64 0) k (by simpa using hkg)).trans ((Below.heap_setCell W ⟨g, 0, none⟩ (.slice (some ⟨gM, 0, none⟩) M M) k (by simpa using hkg)).trans (h5.block k hk))
    have hb9 : Below B w ((W.setCell ⟨g, 0, none⟩ (.slice (some ⟨gM, 0, none⟩) M M)).setCell ⟨g, 1, none⟩ (.int .i64 0)) := ((h5.mono hB).setCell hg _).setCell hg _
    generalize (W.setCell ⟨g, 0, none⟩ (.slice (some ⟨gM, 0, none⟩) M M)).setCell ⟨g, 1, none⟩ (.int .i64 0) = W9 at *
    have hgr := grownBy_putObj' W9 D (.deferred none)
    have hB2 := hB1.grown hgr (fun e => by cases e; exact hDg rfl)
    have hM2 := hM1.grown hgr (fun e => by cases e; exact hDM rfl)
    have hb10 : Below B w (W9.putObj D (.deferred none)) := hb9.grown hgr (by have := hb9.size; omega) (fun k e => by cases e; have := hbW3.size; omega)
    refine ⟨by simp, .inl ⟨_, _, rfl, run_takeDeferred hK1, ?_⟩⟩
    refine ⟨_, results_none rfl _ _ _, ⟨_, rfl⟩, ⟨gM, cs, ?_, hwgM⟩, hb10, fun k hk hkg => (World.putObj_heap_other (by have := hbW3.size; omega)).trans (hkeep k hk hkg)⟩
    rw [HM.out]
    have hMb : M ≤ 200000 := by have := HM.out; omega
    refine ⟨hB2, hg, ⟨by rw [svs_length, h1, Nat.mul_one], .inr ⟨gM, M, _, rfl, by omega, hM2, Nat.le_refl _, by unfold maxLen; omega, by simp [svs_length, h1], ?_⟩⟩, hl, hMle, by have := HM.out; omega, by omega, by have := HM.out; omega, fun i hi => ?_⟩
    · rw [List.take_of_length_le (by simp [svs_length, h1])]
    · rw [Nat.zero_add, Nat.mod_eq_of_lt (by omega)]
      obtain ⟨s, hs⟩ := hl3 i hi
      have hmem : (i, s) ∈ xs := by
        have e1 : (xs.map (·.1))[i]? = some i := by rw [hS.1, List.getElem?_range (by omega)]
        have e2 : (xs.map (·.2))[i]? = some s := by rw [hS.2]; exact hs
        rw [List.getElem?_map] at e1 e2
        cases hx : xs[i]? with
        | none => rw [hx] at e1; cases e1
        | some x =>
          rw [hx] at e1 e2
          simp at e1 e2
          have : x = (i, s) := by cases x; simp_all
          rw [← this]
          exact List.mem_of_getElem? hx
      obtain ⟨a1, a2⟩ := h3 _ hmem
      rw [a2, hs]
end Go.Proofs.Ytlglelgnpkdnbaa
