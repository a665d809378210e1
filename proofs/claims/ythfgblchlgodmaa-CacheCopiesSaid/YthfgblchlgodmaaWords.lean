/- The walk of words (package sums): the eighty words of a block of 64 bytes. Condition: 64 bytes. -/
import Derived.Test.YthfgblchlgodmaaShaA
namespace Go.Proofs.Ythfgblchlgodmaa
open Go.RowKit
set_option linter.unusedVariables false

/-- a word of the block, j bytes of it -/
def part (l : List UInt8) (t : Nat) : Nat → Nat
  | 0 => 0
  | j + 1 => part l t j * 256 % 4294967296 ||| (l.getD (4 * t + j) 0).toNat
def nextW (l : List UInt8) (ws : List Nat) : Nat :=
  if ws.length < 16 then part l ws.length 4 else rotl (ws.getD (ws.length - 3) 0 ^^^ ws.getD (ws.length - 8) 0 ^^^ ws.getD (ws.length - 14) 0 ^^^ ws.getD (ws.length - 16) 0) 1
def wl (l : List UInt8) : Nat → List Nat
  | 0 => []
  | t + 1 => wl l t ++ [nextW l (wl l t)]
theorem wl_length (l : List UInt8) : ∀ t, (wl l t).length = t
  | 0 => rfl
  | t + 1 => by simp [wl, wl_length l t]
theorem part_lt (l : List UInt8) (t : Nat) : ∀ j, part l t j < 4294967296
  | 0 => Nat.zero_lt_succ _
  | j + 1 => Nat.or_lt_two_pow (n := 32) (Nat.mod_lt _ (by decide)) (by have := (l.getD (4 * t + j) 0).toNat_lt; omega)
def All32 (ws : List Nat) : Prop := ∀ x ∈ ws, x < 4294967296
theorem All32.at_ {ws : List Nat} (h : All32 ws) (i : Nat) : ws.getD i 0 < 4294967296 := by
  rw [List.getD_eq_getElem?_getD]
  cases hx : ws[i]? with
  | none => simp
  | some x => simpa using h x (List.mem_of_getElem? hx)
theorem xx_lt {a b c d : Nat} (ha : a < 4294967296) (hb : b < 4294967296) (hc : c < 4294967296) (hd : d < 4294967296) : a ^^^ b ^^^ c ^^^ d < 4294967296 :=
  Nat.xor_lt_two_pow (n := 32) (Nat.xor_lt_two_pow (n := 32) (Nat.xor_lt_two_pow (n := 32) ha hb) hc) hd
theorem nextW_lt (l : List UInt8) (ws : List Nat) (h : All32 ws) : nextW l ws < 4294967296 := by
  unfold nextW
  split
  · exact part_lt l _ 4
  · exact rotl_lt _ _ (xx_lt (h.at_ _) (h.at_ _) (h.at_ _) (h.at_ _))
theorem wl_all (l : List UInt8) : ∀ t, All32 (wl l t)
  | 0 => by intro x hx; cases hx
  | t + 1 => by
    intro x hx
    simp only [wl, List.mem_append, List.mem_singleton] at hx
    rcases hx with hx | rfl
    · exact wl_all l t x hx
    · exact nextW_lt l _ (wl_all l t)

/-- eighty cells: the words ws, then x, then zeros -/
def wcells (ws : List Nat) (x : Nat) : Array Value := ((List.range 80).map fun i => Value.int .u32 ((ws ++ [x]).getD i 0 : Nat)).toArray
theorem wcells_at (ws : List Nat) (x i : Nat) (h : i < 80) : (wcells ws x)[i]? = some (.int .u32 ((ws ++ [x]).getD i 0 : Nat)) := by simp [wcells, h]
theorem getD_left (ws : List Nat) (x i : Nat) (h : i < ws.length) : (ws ++ [x]).getD i 0 = ws.getD i 0 := by
  rw [List.getD_eq_getElem?_getD, List.getD_eq_getElem?_getD, List.getElem?_append_left h]
theorem getD_out (ws : List Nat) (i : Nat) (h : ws.length ≤ i) : ws.getD i 0 = 0 := by
  rw [List.getD_eq_getElem?_getD, List.getElem?_eq_none h]; rfl
theorem wcells_old (ws : List Nat) (x i : Nat) (h : i < ws.length) (h8 : i < 80) : (wcells ws x)[i]? = some (.int .u32 (ws.getD i 0 : Nat)) := by
  rw [wcells_at _ _ _ h8, getD_left _ _ _ h]
theorem wcells_new (ws : List Nat) (x : Nat) (h8 : ws.length < 80) : (wcells ws x)[ws.length]? = some (.int .u32 (x : Nat)) := by
  rw [wcells_at _ _ _ h8]
  simp
theorem wcells_set (ws : List Nat) (x y : Nat) : (wcells ws x).setIfInBounds ws.length (.int .u32 (y : Nat)) = wcells ws y := by
  unfold wcells
  rw [List.setIfInBounds_toArray]
  congr 1
  apply List.ext_getElem?
  intro i
  rw [List.getElem?_set]
  by_cases h : ws.length = i
  · subst h
    by_cases h8 : ws.length < 80
    · simp [h8]
    · simp [h8]
  · rw [if_neg h]
    rcases Nat.lt_or_ge i 80 with h8 | h8
    · simp only [List.getElem?_map, List.getElem?_range h8, Option.map_some]
      congr 3
      rcases Nat.lt_or_ge i ws.length with hlt | hge
      · rw [getD_left _ _ _ hlt, getD_left _ _ _ hlt]
      · rw [getD_out _ _ (by simp; omega), getD_out _ _ (by simp; omega)]
    · rw [List.getElem?_eq_none (by simp; omega), List.getElem?_eq_none (by simp; omega)]
theorem wcells_next (ws : List Nat) (x : Nat) : wcells (ws ++ [x]) 0 = wcells ws x := by
  unfold wcells
  congr 2
  funext i
  congr 2
  rcases Nat.lt_or_ge i (ws ++ [x]).length with hlt | hge
  · rw [getD_left _ _ _ hlt]
  · rw [getD_out _ _ hge]
    rcases Nat.eq_or_lt_of_le hge with he | hgt
    · rw [← he]; simp
    · rw [getD_out _ _ (by simp at hgt ⊢; omega)]
theorem wcells_size (ws : List Nat) (x : Nat) : (wcells ws x).size = 80 := by simp [wcells]
def u32s (ws : List Nat) : Array Value := (ws.map fun x => Value.int .u32 (x : Nat)).toArray
theorem u32s_size (ws : List Nat) : (u32s ws).size = ws.length := by simp [u32s]
theorem u32s_one (ws : List Nat) : ∀ v ∈ (u32s ws).toList, v.oneCell' = true := by
  intro v hv
  simp only [u32s, List.mem_map] at hv
  obtain ⟨x, _, rfl⟩ := hv
  rfl
theorem wcells_full (ws : List Nat) (x : Nat) (h : ws.length = 80) : wcells ws x = u32s ws := by
  unfold wcells u32s
  congr 1
  apply List.ext_getElem?
  intro i
  rcases Nat.lt_or_ge i 80 with h8 | h8
  · simp [h8, h, List.getElem?_append_left (show i < ws.length by omega)]
  · rw [List.getElem?_eq_none (by simp; omega), List.getElem?_eq_none (by simp; omega)]

set_option maxRecDepth 100000 in
set_option maxHeartbeats 400000 in
theorem words_any (A : Option Addr) (c : Nat) (l : List UInt8) (w : World) (hr : Reads w w.heap.size 1 A 64 (bvs l)) (hc : 64 ≤ c) (hcm : c ≤ maxLen) :
    Calls Try.prog 67 #[.slice A 64 c] w fun e w' => e = .returned (.agg (u32s (wl l 80))) ∧ Below w.heap.size w w' := by
  obtain ⟨b, o, rfl, hbb, _⟩ := hr.2 (by decide)
  have hz : ∀ w, (zeroValue 112).run Try.prog w = .ok (.agg (wcells [] 0)) w := fun _ => by kernel_rfl
  go_enter Try.func67, Try.ntmps67
  go_wp2_with fail
  go_loopw [4, 6, 7] (fun _ _ i wr => ∃ t : Nat, t ≤ 80 ∧ i = .int .i64 t ∧ w.heap.size + 1 < wr.heap.size ∧ Blk wr w.heap.size 112 (wcells [] 0) ∧ Blk wr (w.heap.size + 1) 112 (wcells (wl l t) 0) ∧ Below w.heap.size w wr)
    (fun _ _ i _ => 80 - (intOf i).toNat)
  case atStart => exact ⟨0, by omega, rfl, by simp, (Blk.new w _ _).alloc _, by have := Blk.new (w.alloc (.cells (wcells [] 0) 112)) 112 (wcells [] 0); simpa [wl] using this, ((Below.refl _ w).alloc (Nat.le_refl _) _).alloc (by simp) _⟩
  case round =>
    obtain ⟨t, ht, rfl, hsz, hb0, hb1, hbw⟩ := hrel
    clear hz
    by_cases h80 : t < 80
    · have h80' : (t : Int) < 80 := by omega
      have hwl := wl_length l t
      by_cases h16 : t < 16
      · have h16' : (t : Int) < 16 := by omega
        have hHW := hide hwl
        clear hwl
        go_wp2_with fail
        obtain ⟨wo, rfl⟩ : ∃ wo : World, wo = wr := ⟨_, rfl⟩
        go_loopw [6, 20] (fun _ i wr => ∃ j : Nat, j ≤ 4 ∧ i = .int .i64 j ∧ w.heap.size + 1 < wr.heap.size ∧ Blk wr w.heap.size 112 (wcells [] 0) ∧ Blk wr (w.heap.size + 1) 112 (wcells (wl l t) (part l t j)) ∧ Below w.heap.size w wr)
          (fun _ i _ => 4 - (intOf i).toNat)
        case atStart => exact ⟨0, by omega, rfl, hsz, hb0, hb1, hbw⟩
        case round =>
          clear hb0 hb1 hbw hsz
          obtain ⟨j, hj, rfl, hsz, hb0, hb1, hbw⟩ := hrel
          by_cases hj4 : j < 4
          · have hj4' : (j : Int) < 4 := by omega
            have hwl := hHW.out
            have hjx : (j : Int) < ((4 * t + 4 - 4 * t : Nat) : Int) := by omega
            obtain ⟨b', o', he, _, hcell⟩ := (hr.below hbw).byte (k := 4 * t + j) (by omega)
            obtain ⟨rfl, rfl⟩ : b = b' ∧ o = o' := by simpa using he
            rw [← Nat.add_assoc] at hcell
            have hpart : Hid (part l t (j + 1) = part l t j * 256 % 4294967296 ||| (l.getD (4 * t + j) 0).toNat) := rfl
            have hpl := part_lt l t j
            have hck : wr.cell? ⟨w.heap.size + 1, t, none⟩ = some (.int .u32 (part l t j : Nat)) := by
              rw [hb1.cell]; have := wcells_new (wl l t) (part l t j) (by omega); rwa [hwl] at this
            have hset := hb1.set_ t (.int .u32 (part l t (j + 1) : Nat))
            have hst := wcells_set (wl l t) (part l t j) (part l t (j + 1))
            rw [hwl] at hst
            rw [hst] at hset
            have hfk := hb1.frozen t
            have hy := (l.getD (4 * t + j) 0).toNat_lt
            have hx : bits .or .u32 (((part l t j : Nat) : Int) * 256 % 4294967296) (((l.getD (4 * t + j) 0).toNat : Int) % 4294967296) = ((part l t (j + 1) : Nat) : Int) := by
              rw [hpart.out]
              exact (or32 (x := part l t j * 256 % 4294967296) (by omega) (by omega) (Nat.mod_lt _ (by decide)) (by omega)).1
            clear hpart hst hwl he hy
            generalize l.getD (4 * t + j) 0 = y at *
            generalize part l t j = p0 at *
            generalize hp1e : part l t (j + 1) = p1 at *
            have HP1 := hide hp1e
            clear hp1e
            go_wp2_with fail
            go_roundw
            case rel => exact ⟨j + 1, by omega, by go_num, by simpa [World.setCell] using hsz, hb0.far (by simp) _, by rw [HP1.out]; exact hset, hbw.setCell (by simp) _⟩
            case measure => simp [intOf]; omega
          · have hj4' : ¬ (j : Int) < 4 := by omega
            go_wp2_with fail
            go_roundw
            case rel =>
              have he : j = 4 := by omega
              subst he
              refine ⟨t + 1, by omega, by go_num, hsz, hb0, ?_, hbw⟩
              rw [show wl l (t + 1) = wl l t ++ [part l t 4] by simp [wl, nextW, hHW.out, h16], wcells_next]
              exact hb1
            case measure => simp [intOf]; omega
      · have h16' : ¬ (t : Int) < 16 := by omega
        have hall := wl_all l t
        have hnx : Hid (wl l (t + 1) = wl l t ++ [rotl ((wl l t).getD (t - 3) 0 ^^^ (wl l t).getD (t - 8) 0 ^^^ (wl l t).getD (t - 14) 0 ^^^ (wl l t).getD (t - 16) 0) 1]) := by
          show _ = _
          rw [wl, nextW, hwl, if_neg h16]
        have hc3 : wr.cell? ⟨w.heap.size + 1, t - 3, none⟩ = _ := (hb1.cell (t - 3)).trans (wcells_old (wl l t) 0 (t - 3) (by omega) (by omega))
        have hc8 : wr.cell? ⟨w.heap.size + 1, t - 8, none⟩ = _ := (hb1.cell (t - 8)).trans (wcells_old (wl l t) 0 (t - 8) (by omega) (by omega))
        have hc14 : wr.cell? ⟨w.heap.size + 1, t - 14, none⟩ = _ := (hb1.cell (t - 14)).trans (wcells_old (wl l t) 0 (t - 14) (by omega) (by omega))
        have hc16 : wr.cell? ⟨w.heap.size + 1, t - 16, none⟩ = _ := (hb1.cell (t - 16)).trans (wcells_old (wl l t) 0 (t - 16) (by omega) (by omega))
        have hck : wr.cell? ⟨w.heap.size + 1, t, none⟩ = some (.int .u32 (0 : Nat)) := by
          rw [hb1.cell]; have := wcells_new (wl l t) 0 (by omega); rwa [hwl] at this
        have hfk := hb1.frozen t
        have hl3 := hall.at_ (t - 3)
        have hl8 := hall.at_ (t - 8)
        have hl14 := hall.at_ (t - 14)
        have hl16 := hall.at_ (t - 16)
        have hset := wcells_set (wl l t) 0 (rotl ((wl l t).getD (t - 3) 0 ^^^ (wl l t).getD (t - 8) 0 ^^^ (wl l t).getD (t - 14) 0 ^^^ (wl l t).getD (t - 16) 0) 1)
        rw [hwl] at hset
        have HSET := hide hset
        clear hset hall
        generalize (wl l t).getD (t - 3) 0 = x3 at *
        generalize (wl l t).getD (t - 8) 0 = x8 at *
        generalize (wl l t).getD (t - 14) 0 = x14 at *
        generalize (wl l t).getD (t - 16) 0 = x16 at *
        obtain ⟨e1, l1⟩ := xor32 (a := (x3 : Int)) (b := (x8 : Int)) rfl rfl hl3 hl8
        generalize x3 ^^^ x8 = y1 at *
        obtain ⟨e2, l2⟩ := xor32 (a := (y1 : Int)) (b := (x14 : Int)) rfl rfl l1 hl14
        generalize y1 ^^^ x14 = y2 at *
        obtain ⟨e3, l3⟩ := xor32 (a := (y2 : Int)) (b := (x16 : Int)) rfl rfl l2 hl16
        generalize y2 ^^^ x16 = y3 at *
        have hHW := hide hwl
        clear hwl
        have q3 : IntKind.i64.wrap ((t : Int) - 3) = (t : Int) - 3 := by rw [IntKind.wrap_i64]; omega
        have r3 : 3 ≤ (t : Int) := by omega
        have s3 : (t : Int) - 3 < 80 := by omega
        have n3 : ((t : Int) - 3).toNat = t - 3 := by omega
        have q8 : IntKind.i64.wrap ((t : Int) - 8) = (t : Int) - 8 := by rw [IntKind.wrap_i64]; omega
        have r8 : 8 ≤ (t : Int) := by omega
        have s8 : (t : Int) - 8 < 80 := by omega
        have n8 : ((t : Int) - 8).toNat = t - 8 := by omega
        have q14 : IntKind.i64.wrap ((t : Int) - 14) = (t : Int) - 14 := by rw [IntKind.wrap_i64]; omega
        have r14 : 14 ≤ (t : Int) := by omega
        have s14 : (t : Int) - 14 < 80 := by omega
        have n14 : ((t : Int) - 14).toNat = t - 14 := by omega
        have q16 : IntKind.i64.wrap ((t : Int) - 16) = (t : Int) - 16 := by rw [IntKind.wrap_i64]; omega
        have r16 : 16 ≤ (t : Int) := by omega
        have s16 : (t : Int) - 16 < 80 := by omega
        have n16 : ((t : Int) - 16).toNat = t - 16 := by omega
        go_wp2_with fail
        refine wp_region_still_tail 21 (by kernel_rfl) (by kernel_rfl) ?_
        simp only [List.take_succ_cons, List.take_zero, List.drop_succ_cons, List.drop_zero]
        repeat still_step
        still_call (rot1_any y3 l3 _)
        repeat still_step
        refine wpStill_nil ?_
        change wpList _ _ _ _ _ wr.drew
        have hb1' : Blk wr.drew (w.heap.size + 1) 112 (wcells (wl l t) 0) := hb1
        have hb0' : Blk wr.drew w.heap.size 112 (wcells [] 0) := hb0
        have hbw' : Below w.heap.size w wr.drew := hbw.drew
        have hsz' : w.heap.size + 1 < wr.drew.heap.size := hsz
        have hck' : wr.drew.cell? ⟨w.heap.size + 1, t, none⟩ = some (.int .u32 (0 : Nat)) := hck
        have hfk' : wr.drew.frozen? ⟨w.heap.size + 1, t, none⟩ = false := hfk
        clear hb1 hb0 hbw hsz hck hfk hc3 hc8 hc14 hc16
        generalize wr.drew = w2 at *
        go_wp2_with fail
        go_roundw
        case rel =>
          refine ⟨t + 1, by omega, by go_num, by simpa [World.setCell] using hsz', hb0'.far (by simp) _, ?_, hbw'.setCell (by simp) _⟩
          rw [hnx.out, wcells_next, ← HSET.out]
          exact hb1'.set_ t _
        case measure => simp [intOf]; omega
    · have h80' : ¬ (t : Int) < 80 := by omega
      have he : t = 80 := by omega
      subst he
      rw [wcells_full _ _ (wl_length l 80)] at hb1
      have hsz8 : (u32s (wl l 80)).size = 80 := (u32s_size _).trans (wl_length l 80)
      have hone8 := u32s_one (wl l 80)
      generalize hcs : u32s (wl l 80) = cs at *
      have HCS := hide hcs
      clear hcs
      have hi1 : Hid ((Try.prog.info? 112).map (·.size) = some cs.size) := by rw [hsz8]; show _ = _; kernel_rfl
      have hi2 : Hid ((Try.prog.info? 112).map (·.size) = some (wcells [] 0).size) := by rw [wcells_size]; show _ = _; kernel_rfl
      have hi3 : Hid (cs.size = (wcells [] 0).size) := by rw [hsz8, wcells_size]; exact rfl
      clear hsz8
      go_wp2_with (first
        | (refine wpList_load_row rfl 112 (.tmp 3) rfl (w.heap.size + 1) rfl 112 _ (0, 0) _ hb1 Try.underlying112 rfl hi1.out ?_)
        | (refine wpList_store_row rfl 112 (.tmp 2) (.tmp 57) rfl w.heap.size rfl rfl hb0 hi3.out hone8 hi2.out ?_
           intro w2 hrs hb2))
      refine bodyPost_cell Try.results67 (g := w.heap.size) rfl hb2 Try.underlying112 rfl hi1.out rfl ⟨by rw [HCS.out], hbw.trans (hrs.below (Nat.le_refl _))⟩
end Go.Proofs.Ythfgblchlgodmaa
