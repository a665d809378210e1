/- The walks of Text and IsDigest, the program's and the document's. Conditions: the state's words fit 32 bits; a text is no longer than may be. -/
import Derived.Test.YthfgblchlgodmaaShaA
import Derived.Test.YthfgblchlgodmaaOrd
namespace Go.Proofs.Ythfgblchlgodmaa
open Go.RowKit
set_option linter.unusedVariables false

def hexc (d : Nat) : UInt8 := [48, 49, 50, 51, 52, 53, 54, 55, 56, 57, 97, 98, 99, 100, 101, 102].getD d 0
def St.at (s : St) (i : Nat) : Nat := [s.a, s.b, s.c, s.d, s.e].getD i 0
def textAt (s : St) (i : Nat) : UInt8 := hexc (s.at (i / 8) / 2 ^ (28 - 4 * (i % 8)) % 16)
def textOf (s : St) : List UInt8 := (List.range 40).map (textAt s)

def tcells (s : St) (k : Nat) : Array Value := ((List.range 40).map fun i => Value.int .u8 ((if i < k then (textAt s i).toNat else 0 : Nat) : Int)).toArray
theorem tcells_set (s : St) (k : Nat) (hk : k < 40) : (tcells s k).setIfInBounds k (.int .u8 ((textAt s k).toNat : Int)) = tcells s (k + 1) := by
  unfold tcells
  rw [List.setIfInBounds_toArray]
  congr 1
  apply List.ext_getElem?
  intro i
  rw [List.getElem?_set]
  by_cases h : k = i
  · subst h; simp [hk]
  · rw [if_neg h]
    rcases Nat.lt_or_ge i 40 with h8 | h8
    · simp only [List.getElem?_map, List.getElem?_range h8, Option.map_some]
      congr 3
      by_cases h2 : i < k
      · rw [if_pos h2, if_pos (by omega)]
      · rw [if_neg h2, if_neg (by omega)]
    · rw [List.getElem?_eq_none (by simp; omega), List.getElem?_eq_none (by simp; omega)]
theorem tcells_full (s : St) : tcells s 40 = (bvs (textOf s)).toArray := by
  unfold tcells bvs textOf
  congr 1
theorem tcells_zero (s : St) : tcells s 0 = (List.replicate 40 (Value.int .u8 0)).toArray := by
  unfold tcells; rfl
theorem at_cell (s : St) (q : Nat) (hq : q < 5) : (#[Value.int .u32 (s.a : Int), .int .u32 s.b, .int .u32 s.c, .int .u32 s.d, .int .u32 s.e] : Array Value)[q]? = some (.int .u32 (s.at q : Nat)) := by
  have : q = 0 ∨ q = 1 ∨ q = 2 ∨ q = 3 ∨ q = 4 := by omega
  rcases this with rfl | rfl | rfl | rfl | rfl <;> rfl
def hexs : ByteArray := { data := #[48, 49, 50, 51, 52, 53, 54, 55, 56, 57, 97, 98, 99, 100, 101, 102] }
theorem hex_index (d : Nat) (h : d < 16) (W : World) : (Instr.index 9 (.string { data := #[48, 49, 50, 51, 52, 53, 54, 55, 56, 57, 97, 98, 99, 100, 101, 102] }) (.int .u32 (d : Int))).run Try.prog W = .ok (.int .u8 ((hexc d).toNat : Int)) W := by
  have hc : d = 0 ∨ d = 1 ∨ d = 2 ∨ d = 3 ∨ d = 4 ∨ d = 5 ∨ d = 6 ∨ d = 7 ∨ d = 8 ∨ d = 9 ∨ d = 10 ∨ d = 11 ∨ d = 12 ∨ d = 13 ∨ d = 14 ∨ d = 15 := by omega
  rcases hc with rfl | rfl | rfl | rfl | rfl | rfl | rfl | rfl | rfl | rfl | rfl | rfl | rfl | rfl | rfl | rfl
  all_goals (show _ = _; kernel_rfl)
theorem nib (x e : Nat) (hx : x < 4294967296) : ∃ d : Nat, d < 16 ∧ d = x / 2 ^ e % 16 ∧ bits .and .u32 ((x : Int) / 2 ^ e) 15 = (d : Int) := by
  refine ⟨x / 2 ^ e % 16, Nat.mod_lt _ (by decide), rfl, ?_⟩
  have hl : x / 2 ^ e < 4294967296 := Nat.lt_of_le_of_lt (Nat.div_le_self _ _) hx
  have e1 : (x : Int) / 2 ^ e = ((x / 2 ^ e : Nat) : Int) := by
    rw [Int.natCast_ediv, Int.natCast_pow]; rfl
  rw [(and32 (b := 15) (y := 15) e1 rfl hl (by decide)).1, nat_mask4]
theorem at_lt (s : St) (hs : s.fits) (q : Nat) (hq : q < 5) : s.at q < 4294967296 := by
  obtain ⟨h1, h2, h3, h4, h5⟩ := hs
  have : q = 0 ∨ q = 1 ∨ q = 2 ∨ q = 3 ∨ q = 4 := by omega
  rcases this with rfl | rfl | rfl | rfl | rfl <;> assumption

set_option maxHeartbeats 1000000 in
theorem text_any (s : St) (hs : s.fits) (w : World) :
    Calls Try.prog 59 #[.agg s.cells] w fun e w' => e = .returned (.string ⟨(textOf s).toArray⟩) ∧ Below w.heap.size w w' := by
  unfold St.cells
  go_enter Try.func59, Try.ntmps59
  go_wp2_with fail
  have hB0 : Blk ((w.alloc (.cells #[.int .u32 s.a, .int .u32 s.b, .int .u32 s.c, .int .u32 s.d, .int .u32 s.e] 93)).alloc (.cells (List.replicate 40 (Value.int .u8 0)).toArray 120)) w.heap.size 93 #[.int .u32 s.a, .int .u32 s.b, .int .u32 s.c, .int .u32 s.d, .int .u32 s.e] := (Blk.new _ _ _).alloc _
  have hB1 : Blk ((w.alloc (.cells #[.int .u32 s.a, .int .u32 s.b, .int .u32 s.c, .int .u32 s.d, .int .u32 s.e] 93)).alloc (.cells (List.replicate 40 (Value.int .u8 0)).toArray 120)) (w.heap.size + 1) 120 (tcells s 0) := by
    have := Blk.new (w.alloc (.cells #[.int .u32 s.a, .int .u32 s.b, .int .u32 s.c, .int .u32 s.d, .int .u32 s.e] 93)) 120 (List.replicate 40 (Value.int .u8 0)).toArray
    rw [tcells_zero]
    rwa [World.size_alloc] at this
  have hbw : Below w.heap.size w ((w.alloc (.cells #[.int .u32 s.a, .int .u32 s.b, .int .u32 s.c, .int .u32 s.d, .int .u32 s.e] 93)).alloc (.cells (List.replicate 40 (Value.int .u8 0)).toArray 120)) := ((Below.refl _ _).alloc (Nat.le_refl _) _).alloc (by simp) _
  simp only [List.replicate_succ, List.replicate_zero] at hB0 hB1 hbw
  go_loopw [4, 5] (fun _ i wr => ∃ k : Nat, k ≤ 40 ∧ i = .int .i64 k ∧ Blk wr w.heap.size 93 #[.int .u32 s.a, .int .u32 s.b, .int .u32 s.c, .int .u32 s.d, .int .u32 s.e] ∧ Blk wr (w.heap.size + 1) 120 (tcells s k) ∧ Below w.heap.size w wr)
    (fun _ i _ => 40 - (intOf i).toNat)
  case atStart => exact ⟨0, by omega, rfl, hB0, hB1, hbw⟩
  case round =>
    clear hB0 hB1 hbw
    obtain ⟨k, hk, rfl, hB0, hB1, hbw⟩ := hrel
    by_cases h40 : k < 40
    · have h40' : (k : Int) < 40 := by omega
      have hc : wr.cell? ⟨w.heap.size, k / 8, none⟩ = some (.int .u32 (s.at (k / 8) : Nat)) := by rw [hB0.cell]; exact at_cell s _ (by omega)
      have hx := at_lt s hs (k / 8) (by omega)
      have hck : wr.cell? ⟨w.heap.size + 1, k, none⟩ = some (.int .u8 0) := by rw [hB1.cell]; simp [tcells, h40]
      have hfk := hB1.frozen k
      obtain ⟨d, hd, hde, hand⟩ := nib (s.at (k / 8)) (28 - 4 * (k % 8)) hx
      have hidx := hex_index d hd
      have ht : Hid (textAt s k = hexc d) := by rw [hde]; exact rfl
      have hsize := hbw.size
      clear hde hx
      go_wp2_with fail
      go_roundw
      case rel =>
        refine ⟨k + 1, by omega, by go_num, hB0.far (by simp) _, ?_, hbw.setCell (by simp) _⟩
        rw [← tcells_set s k h40, ht.out]
        exact hB1.set_ k _
      case measure => simp [intOf]; omega
    · have h40' : ¬ (k : Int) < 40 := by omega
      have he : k = 40 := by omega
      subst he
      rw [tcells_full] at hB1
      have hlen : (textOf s).length = 40 := by simp [textOf]
      have hrd : Reads wr (w.heap.size + 2) 1 (some ⟨w.heap.size + 1, 0, none⟩) 40 (bvs (textOf s)) := by
        have := hB1.reads (n := w.heap.size + 2) (k := 0) (m := 40) (by omega) (by simp [bvs_length, hlen])
        rw [List.drop_zero] at this
        simpa [List.take_of_length_le (Nat.le_of_eq ((bvs_length _).trans hlen))] using this
      have hcv := run_bytes_str (P := Try.prog) 52 9 5 Try.underlying52 Try.underlying5 Try.underlying9 hrd 40
      generalize hts : textOf s = ts at *
      have HTS := hide hts
      clear hts
      go_wp2_with fail
      go_ret
      exact ⟨ret_str (by rw [HTS.out]), hbw⟩

set_option maxHeartbeats 1000000 in
theorem rtext_any (s : St) (hs : s.fits) (w : World) :
    Calls Try.prog 55 #[.agg s.cells] w fun e w' => e = .returned (.string ⟨(textOf s).toArray⟩) ∧ Below w.heap.size w w' := by
  unfold St.cells
  have hbx := Blk.new w 93 #[.int .u32 s.a, .int .u32 s.b, .int .u32 s.c, .int .u32 s.d, .int .u32 s.e]
  have hbe := (Below.refl w.heap.size w).alloc (Nat.le_refl _) (.cells #[.int .u32 s.a, .int .u32 s.b, .int .u32 s.c, .int .u32 s.d, .int .u32 s.e] 93)
  have hsz : (w.alloc (.cells #[.int .u32 s.a, .int .u32 s.b, .int .u32 s.c, .int .u32 s.d, .int .u32 s.e] 93)).heap.size = w.heap.size + 1 := by simp
  go_enter Try.func55, Try.ntmps55
  go_wp2_with (first
    | (refine wpList_make rfl (.const (.int .i64 40)) (.const (.int .i64 40)) 52 rfl u8_ok rfl Try.underlying52 (n := 40) (c := 40) rfl rfl (Nat.le_refl _) (by decide) (by decide) ?_
       intro w1 hb1 hs1 hk1 _))
  have hB0 : Blk w1 w.heap.size 93 #[.int .u32 s.a, .int .u32 s.b, .int .u32 s.c, .int .u32 s.d, .int .u32 s.e] := hbx.below hb1 (by omega)
  have hB1 : Blk w1 (w.heap.size + 1) 5 (tcells s 0) := by rw [tcells_zero]; rw [hsz] at hk1; exact hk1
  have hbw : Below w.heap.size w w1 := hbe.trans (hb1.mono (by omega))
  clear hbx hbe hsz hb1 hk1 hs1
  go_loopw [5] (fun i wr => ∃ k : Nat, k ≤ 40 ∧ i = .int .i64 k ∧ Blk wr w.heap.size 93 #[.int .u32 s.a, .int .u32 s.b, .int .u32 s.c, .int .u32 s.d, .int .u32 s.e] ∧ Blk wr (w.heap.size + 1) 5 (tcells s k) ∧ Below w.heap.size w wr)
    (fun i _ => 40 - (intOf i).toNat)
  case atStart => exact ⟨0, by omega, rfl, hB0, hB1, hbw⟩
  case round =>
    clear hB0 hB1 hbw
    obtain ⟨k, hk, rfl, hB0, hB1, hbw⟩ := hrel
    by_cases h40 : k < 40
    · have h40' : (k : Int) < 40 := by omega
      have hc : wr.cell? ⟨w.heap.size, k / 8, none⟩ = some (.int .u32 (s.at (k / 8) : Nat)) := by rw [hB0.cell]; exact at_cell s _ (by omega)
      have hx := at_lt s hs (k / 8) (by omega)
      have hck : wr.cell? ⟨w.heap.size + 1, k, none⟩ = some (.int .u8 0) := by rw [hB1.cell]; simp [tcells, h40]
      have hfk := hB1.frozen k
      obtain ⟨d, hd, hde, hand⟩ := nib (s.at (k / 8)) (28 - 4 * (k % 8)) hx
      have hidx := hex_index d hd
      have ht : Hid (textAt s k = hexc d) := by rw [hde]; exact rfl
      have hsize := hbw.size
      clear hde hx
      go_wp2_with fail
      go_roundw
      case rel =>
        refine ⟨k + 1, by omega, by go_num, hB0.far (by simp) _, ?_, hbw.setCell (by simp) _⟩
        rw [← tcells_set s k h40, ht.out]
        exact hB1.set_ k _
      case measure => simp [intOf]; omega
    · have h40' : ¬ (k : Int) < 40 := by omega
      have he : k = 40 := by omega
      subst he
      rw [tcells_full] at hB1
      have hlen : (textOf s).length = 40 := by simp [textOf]
      have hrd : Reads wr (w.heap.size + 2) 1 (some ⟨w.heap.size + 1, 0, none⟩) 40 (bvs (textOf s)) := by
        have := hB1.reads (n := w.heap.size + 2) (k := 0) (m := 40) (by omega) (by simp [bvs_length, hlen])
        rw [List.drop_zero] at this
        simpa [List.take_of_length_le (Nat.le_of_eq ((bvs_length _).trans hlen))] using this
      have hcv := run_bytes_str (P := Try.prog) 52 9 5 Try.underlying52 Try.underlying5 Try.underlying9 hrd 40
      generalize hts : textOf s = ts at *
      have HTS := hide hts
      clear hts
      go_wp2_with fail
      go_ret
      exact ⟨ret_str (by rw [HTS.out]), hbw⟩

/-- is a byte a digit to the base 16? -/
def hexB (b : UInt8) : Bool := (48 ≤ b.toNat && b.toNat ≤ 57) || (97 ≤ b.toNat && b.toNat ≤ 102)
def isDig (l : List UInt8) : Bool := l.all hexB && l.length == 40

theorem hexB_cases (b : UInt8) : (hexB b = true ∧ ((48 ≤ (b.toNat : Int) ∧ (b.toNat : Int) ≤ 57) ∨ (97 ≤ (b.toNat : Int) ∧ (b.toNat : Int) ≤ 102))) ∨ (hexB b = false ∧ ((b.toNat : Int) < 48 ∨ 102 < (b.toNat : Int) ∨ (57 < (b.toNat : Int) ∧ (b.toNat : Int) < 97))) := by
  unfold hexB
  by_cases h1 : 48 ≤ b.toNat <;> by_cases h2 : b.toNat ≤ 57 <;> by_cases h3 : 97 ≤ b.toNat <;> by_cases h4 : b.toNat ≤ 102 <;> simp [h1, h2, h3, h4] <;> omega
theorem all_take_succ (p : UInt8 → Bool) (l : List UInt8) (k : Nat) (h : k < l.length) : (l.take (k + 1)).all p = ((l.take k).all p && p (l.getD k 0)) := by
  rw [List.take_succ_eq_append_getElem h, List.all_append, List.getD_eq_getElem?_getD, List.getElem?_eq_getElem h]
  simp only [List.all_cons, List.all_nil, Bool.and_true, Option.getD_some]
theorem all_false_of (p : UInt8 → Bool) (l : List UInt8) (k : Nat) (h : k < l.length) (hp : p (l.getD k 0) = false) : l.all p = false := by
  have : l.getD k 0 ∈ l := by rw [List.getD_eq_getElem?_getD, List.getElem?_eq_getElem h]; exact List.getElem_mem h
  rw [List.all_eq_false]
  exact ⟨_, this, by rw [hp]; decide⟩

end Go.Proofs.Ythfgblchlgodmaa
