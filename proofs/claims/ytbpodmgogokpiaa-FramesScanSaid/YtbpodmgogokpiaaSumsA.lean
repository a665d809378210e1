/- The walks of layer 1's sums (package sums: table, Update, Crc, Bytes, Of): what each call answers, as a plain function. Conditions: those of each theorem. -/
import Derived.Test.YtbpodmgogokpiaaRows
import Derived.Test.YtbpodmgogokpiaaLib
import Derived.StillTailTactics
import Derived.Deep.QuietTactic
import Derived.BigQuiet
namespace Go.Proofs.Ytbpodmgogokpiaa
open Go.RowKit
set_option linter.unusedVariables false

def hexv (n : Nat) : Nat := if 97 ≤ n then n - 97 + 10 else (n + 208) % 256

theorem at_any (b : UInt8) (w : World)  :
    Calls Try.prog 53 #[.int .u8 b.toNat] w fun e w' => e = .returned (.int .u32 (hexv b.toNat)) ∧ w' = w := by
  have hb : (b.toNat : Int) < 256 := by have := b.toNat_lt; omega
  by_cases h : 97 ≤ (b.toNat : Int)
  · go_enter Try.func53, Try.ntmps53
    go_wp2
    go_ret
    refine ⟨ret_int ?_, rfl⟩
    unfold hexv; rw [if_pos (by omega)]
    omega
  · go_enter Try.func53, Try.ntmps53
    go_wp2
    go_ret
    refine ⟨ret_int ?_, rfl⟩
    unfold hexv; rw [if_neg (by omega)]
    omega

def nibs : List UInt8 := [48, 48, 48, 48, 48, 48, 48, 48, 32, 49, 100, 98, 55, 49, 48, 54, 52, 32, 51, 98, 54, 101, 50, 48, 99, 56, 32, 50, 54, 100, 57, 51, 48, 97, 99, 32, 55, 54, 100, 99, 52, 49, 57, 48, 32, 54, 98, 54, 98, 53, 49, 102, 52, 32, 52, 100, 98, 50, 54, 49, 53, 56, 32, 53, 48, 48, 53, 55, 49, 51, 99, 32, 101, 100, 98, 56, 56, 51, 50, 48, 32, 102, 48, 48, 102, 57, 51, 52, 52, 32, 100, 54, 100, 54, 97, 51, 101, 56, 32, 99, 98, 54, 49, 98, 51, 56, 99, 32, 57, 98, 54, 52, 99, 50, 98, 48, 32, 56, 54, 100, 51, 100, 50, 100, 52, 32, 97, 48, 48, 97, 101, 50, 55, 56, 32, 98, 100, 98, 100, 102, 50, 49, 99]

def acc (k : Nat) : Nat → Nat
  | 0 => 0
  | j + 1 => (acc k j * 16) % 4294967296 ||| hexv (nibs.getD (9 * k + j) 0).toNat

/-- the cells when k entries are done and j digits of the next -/
def tabAt (k j : Nat) : Array Value := ((List.range 16).map fun i => Value.int .u32 (if i < k then acc i 8 else if i = k then acc k j else 0 : Nat)).toArray

theorem tab_next (k : Nat) : tabAt k 8 = tabAt (k + 1) 0 := by
  unfold tabAt
  congr 2
  funext i
  congr 2
  by_cases h1 : i < k
  · rw [if_pos h1, if_pos (by omega)]
  · by_cases h2 : i = k
    · subst h2; simp
    · rw [if_neg h1, if_neg h2, if_neg (by omega)]; split <;> rfl
theorem tab_set (k j : Nat) (hk : k < 16) : (tabAt k j).setIfInBounds k (.int .u32 (acc k (j + 1) : Nat)) = tabAt k (j + 1) := by
  unfold tabAt
  apply Array.ext
  · simp
  · intro i h1 h2
    by_cases h : k = i
    · subst h; simp
    · have h' : ¬ i = k := Ne.symm h
      simp [h, h']
theorem tab_at (k j : Nat) (hk : k < 16) : (tabAt k j)[k]? = some (.int .u32 (acc k j : Nat)) := by
  simp [tabAt, hk]
theorem tab_full (i : Nat) (h : i < 16) : (tabAt 16 0)[i]? = some (.int .u32 (acc i 8 : Nat)) := by
  simp [tabAt, h]
theorem acc_lt : ∀ k, k < 16 → ∀ j, j ≤ 8 → acc k j < 4294967296 := by decide +kernel
theorem nibs_size (k : Nat) (hk : k < 16) : ((⟨nibs.toArray⟩ : ByteArray).extract (9 * k) (9 * k + 8)).size = 8 := by
  rw [ByteArray.size_extract]
  have : (⟨nibs.toArray⟩ : ByteArray).size = 143 := by decide +kernel
  omega
theorem nibs_get (k j : Nat) (hj : j < 8) : ((⟨nibs.toArray⟩ : ByteArray).extract (9 * k) (9 * k + 8)).data.toList.getD j 0 = nibs.getD (9 * k + j) 0 := by
  rw [ByteArray.data_extract]
  simp only [Array.toList_extract]
  rw [List.getD_eq_getElem?_getD, List.getD_eq_getElem?_getD]
  rw [List.extract_eq_take_drop, List.getElem?_take, if_pos (by omega), List.getElem?_drop]

set_option maxHeartbeats 400000 in
theorem table_any (w : World) :
    Calls Try.prog 51 #[] w fun e w' => ∃ g, e = .returned (.func (.func 54) #[] #[.pointer (some ⟨g, 0, none⟩)]) ∧ w.heap.size ≤ g ∧ Blk w' g 85 (tabAt 16 0) ∧ Below w.heap.size w w' := by
  go_enter Try.func51, Try.ntmps51
  go_wp2_with fail
  go_loopw [3, 5, 6] (fun _ _ i wr => ∃ k : Nat, k ≤ 16 ∧ i = .int .i64 k ∧ w.heap.size < wr.heap.size ∧ Blk wr w.heap.size 85 (tabAt k 0) ∧ Below w.heap.size w wr) (fun _ _ i _ => 16 - (intOf i).toNat)
  case atStart => exact ⟨0, by omega, rfl, by simp, heap_alloc_new w _, (Below.refl _ _).alloc (Nat.le_refl _) _⟩
  case round =>
    obtain ⟨k, hk, rfl, hsz, htab, hbel⟩ := hrel
    by_cases hlt : k < 16
    · have hlt' : (k : Int) < 16 := by omega
      have hn8 := nibs_size k hlt
      have hget := nibs_get k
      generalize hs : ((⟨nibs.toArray⟩ : ByteArray).extract (9 * k) (9 * k + 8)) = s at hn8 hget
      have H8 := hide hn8
      have HG := hide hget
      have HS := hide hs
      have hsm : Hid (s.size ≤ maxLen) := by rw [H8.out]; show 8 ≤ maxLen; unfold maxLen; omega
      clear hn8 hget hs
      go_wp2_with (first
        | (refine wpList_bytesOf rfl _ 9 25 5 rfl Try.underlying9 Try.underlying25 Try.underlying5 s (congrArg Value.string HS.out) hsm.out ?_
           intro c wa hba hsa hra hfa hca hcm))
      have hs8 : s.size = 8 := H8.out
      have hrd : Reads wa (wr.heap.size + 1) 1 (some ⟨wr.heap.size, 0, none⟩) 8 (bvs s.data.toList) := by rw [← hs8]; exact hra
      have htb : Blk wa w.heap.size 85 (tabAt k 0) := htab.below hba hsz
      have hblw : Below w.heap.size w wa := hbel.trans (hba.mono (by omega))
      clear hba hra hfa htab hbel
      have hS8 := hide hs8
      clear hs8
      obtain ⟨wo, rfl⟩ : ∃ wo, wo = wr := ⟨_, rfl⟩
      go_loopw [5, 17] (fun _ i wr => ∃ j : Nat, j ≤ 8 ∧ i = .int .i64 j ∧ wr.heap.size = wa.heap.size ∧ Blk wr w.heap.size 85 (tabAt k j) ∧ Reads wr (wo.heap.size + 1) 1 (some ⟨wo.heap.size, 0, none⟩) 8 (bvs s.data.toList) ∧ Below w.heap.size w wr) (fun _ i _ => 8 - (intOf i).toNat)
      case atStart => exact ⟨0, by omega, rfl, rfl, htb, hrd, hblw⟩
      case round =>
        clear hrd htb hblw
        obtain ⟨j, hj, rfl, hsz2, htb, hrd, hbl⟩ := hrel
        by_cases hjl : j < 8
        · have hjl' : (j : Int) < (s.size : Int) := by have := hS8.out; omega
          obtain ⟨b, o, hA, hb, hcell⟩ := hrd.byte hjl
          obtain ⟨rfl, rfl⟩ : wo.heap.size = b ∧ 0 = o := by simpa using hA
          rw [HG.out j hjl, Nat.zero_add] at hcell
          have HZ := hide hsz2
          clear hsz2
          go_wp2_with fail
          have hck : wr.cell? ⟨w.heap.size, k, none⟩ = some (.int .u32 (acc k j : Nat)) := by rw [htb.cell, tab_at k j hlt]
          have hfk := htb.frozen k
          refine wp_region_still_tail 9 (by kernel_rfl) (by kernel_rfl) ?_
          simp only [List.take_succ_cons, List.take_zero, List.drop_succ_cons, List.drop_zero]
          repeat still_step
          still_call (at_any _ _)
          repeat still_step
          refine wpStill_nil ?_
          have hval : bits BinOp.or IntKind.u32 (IntKind.u32.wrap ((acc k j : Nat) * 16)) (hexv (nibs[9 * k + j]?.getD 0).toNat : Nat) = ((acc k (j + 1) : Nat) : Int) := by
            rw [IntKind.wrap_u32, show ((acc k j : Nat) * 16 : Int) % 4294967296 = ((acc k j * 16 % 4294967296 : Nat) : Int) by omega]
            rw [u32_or_nat _ _ (Nat.mod_lt _ (by decide)) (by have := (nibs[9 * k + j]?.getD 0).toNat_lt; unfold hexv; split <;> omega)]
            simp [acc]
          rw [hval]
          change wpList _ _ _ _ _ wr.drew
          have htb2 : Blk wr.drew w.heap.size 85 (tabAt k j) := htb
          have hrd2 : Reads wr.drew (wo.heap.size + 1) 1 (some ⟨wo.heap.size, 0, none⟩) 8 (bvs s.data.toList) := hrd
          have hbl2 : Below w.heap.size w wr.drew := hbl.drew
          have HZ2 : Hid (wr.drew.heap.size = wa.heap.size) := HZ
          have hck2 : wr.drew.cell? ⟨w.heap.size, k, none⟩ = some (.int .u32 (acc k j : Nat)) := hck
          have hfk2 : wr.drew.frozen? ⟨w.heap.size, k, none⟩ = false := hfk
          clear htb hrd hbl HZ hck hfk hcell hval
          generalize wr.drew = w2 at *
          go_wp2_with fail
          go_roundw
          case rel => exact ⟨j + 1, by omega, by go_num, by simpa [World.setCell] using HZ2.out, by rw [← tab_set k j hlt]; exact htb2.set_ k _, hrd2.setFar (by simp; omega) _, hbl2.setCell (by simp) _⟩
          case measure => simp [intOf]; omega
        · have hj8 : ¬ (j : Int) < (s.size : Int) := by have := hS8.out; omega
          have HZ := hide hsz2
          clear hsz2
          go_wp2_with fail
          go_roundw
          case rel =>
            have h8 : j = 8 := by omega
            subst h8
            exact ⟨k + 1, by omega, by go_num, by rw [HZ.out]; omega, by rw [← tab_next]; exact htb, hbl⟩
          case measure => simp [intOf]; omega
    · have hk' : k = 16 := by omega
      subst hk'
      go_wp2_with fail
      go_ret
      exact ⟨w.heap.size, rfl, Nat.le_refl _, htab, hbel⟩
theorem look_any (g h : Nat) (w : World) (hh : h < 16) (hb : Blk w g 85 (tabAt 16 0)) :
    Calls Try.prog 54 #[.int .u8 h, .pointer (some ⟨g, 0, none⟩)] w fun e w' => e = .returned (.int .u32 (acc h 8 : Nat)) ∧ w' = w := by
  have hc : w.cell? ⟨g, h, none⟩ = some (.int .u32 (acc h 8 : Nat)) := by rw [hb.cell, tab_full h hh]
  have hh' : (h : Int) < 16 := by omega
  go_enter Try.func54, Try.ntmps54
  go_wp2
  go_ret
  exact ⟨rfl, rfl⟩

def crcHalf (n : Nat) : Nat := n / 16 ^^^ acc (n % 16) 8
def crcByte (n : Nat) (b : UInt8) : Nat := crcHalf (crcHalf (n ^^^ b.toNat))
def crcRun (n : Nat) (l : List UInt8) : Nat := l.foldl crcByte n
def crcUpd (s : Nat) (l : List UInt8) : Nat := crcRun (s ^^^ 4294967295) l ^^^ 4294967295

theorem crcHalf_lt (n : Nat) (h : n < 4294967296) : crcHalf n < 4294967296 := by
  unfold crcHalf
  exact Nat.xor_lt_two_pow (n := 32) (by omega) (acc_lt _ (Nat.mod_lt _ (by decide)) 8 (by decide))
theorem crcByte_lt (n : Nat) (b : UInt8) (h : n < 4294967296) : crcByte n b < 4294967296 :=
  crcHalf_lt _ (crcHalf_lt _ (Nat.xor_lt_two_pow (n := 32) h (by have := b.toNat_lt; omega)))
theorem crcRun_lt (l : List UInt8) : ∀ n, n < 4294967296 → crcRun n l < 4294967296 := by
  induction l with
  | nil => intro n h; exact h
  | cons b l ih => intro n h; exact ih _ (crcByte_lt n b h)
theorem crcRun_snoc (n : Nat) (l : List UInt8) (k : Nat) (h : k < l.length) : crcRun n (l.take (k + 1)) = crcByte (crcRun n (l.take k)) (l.getD k 0) := by
  rw [List.take_succ_eq_append_getElem h]
  rw [crcRun, List.foldl_append]
  simp [crcRun, List.getD_eq_getElem?_getD, h]
theorem u32_not (a : Nat) (ha : a < 4294967296) : bits .xor .u32 (4294967295 : Int) (a : Int) = ((a ^^^ 4294967295 : Nat) : Int) := by
  have := u32_xor_nat 4294967295 a (by decide) ha
  rw [Nat.xor_comm] at this
  exact this

theorem half_step (z : Nat) (hz : z < 4294967296) : ∃ h : Nat, h < 16 ∧ bits .and .u32 (z : Int) 15 = (h : Int) ∧ (h : Int) % 256 = (h : Int) ∧ bits .xor .u32 ((z : Int) / 16) ((acc h 8 : Nat) : Int) = ((crcHalf z : Nat) : Int) ∧ crcHalf z < 4294967296 := by
  refine ⟨z % 16, Nat.mod_lt _ (by decide), ?_, by omega, ?_, crcHalf_lt z hz⟩
  · rw [show (15 : Int) = ((15 : Nat) : Int) from rfl, u32_and_nat z 15 hz (by decide), nat_mask4]
  · rw [show (z : Int) / 16 = ((z / 16 : Nat) : Int) by omega, u32_xor_nat _ _ (by omega) (acc_lt _ (Nat.mod_lt _ (by decide)) 8 (by decide))]
    rfl
theorem byte_step (x : Nat) (y : UInt8) (hx : x < 4294967296) : ∃ z : Nat, z < 4294967296 ∧ (y.toNat : Int) % 4294967296 = (y.toNat : Int) ∧ bits .xor .u32 (x : Int) (y.toNat : Int) = (z : Int) ∧ crcByte x y = crcHalf (crcHalf z) := by
  have hy := y.toNat_lt
  exact ⟨x ^^^ y.toNat, Nat.xor_lt_two_pow (n := 32) hx (by omega), by omega, u32_xor_nat _ _ hx (by omega), rfl⟩

set_option maxHeartbeats 400000 in
theorem update_any (s : Nat) (hs : s < 4294967296) (A : Option Addr) (n c : Nat) (l : List UInt8) (w : World) (hr : Reads w w.heap.size 1 A n (bvs l)) (hn : n ≤ maxLen) :
    Calls Try.prog 43 #[.int .u32 s, .slice A n c] w fun e w' => e = .returned (.int .u32 (crcUpd s l : Nat)) ∧ Below w.heap.size w w' := by
  have hn : n ≤ 9223372036854775807 := hn
  go_enter Try.func43, Try.ntmps43
  go_wp2_with (first | (go_at_call 51; refine (table_any _).mono ?_; rintro e w1 ⟨g, rfl, hg, hb, hbel⟩))
  go_loopw [6, 8, 14] (fun x _ i wr => ∃ k : Nat, k ≤ n ∧ i = .int .i64 k ∧ x = .int .u32 (crcRun (s ^^^ 4294967295) (l.take k) : Nat) ∧ Below w.heap.size w wr ∧ Blk wr g 85 (tabAt 16 0)) (fun _ _ i _ => n - (intOf i).toNat)
  case atStart => exact ⟨0, Nat.zero_le _, rfl, by simp only [crcRun, List.take_zero, List.foldl_nil]; exact congrArg (Value.int .u32) (u32_not s hs), hbel, hb⟩
  case round =>
    obtain ⟨k, hk, rfl, rfl, hbel, hb⟩ := hrel
    have hlt0 := crcRun_lt (l.take k) (s ^^^ 4294967295) (Nat.xor_lt_two_pow (n := 32) hs (by decide))
    have hsn := crcRun_snoc (s ^^^ 4294967295) l k
    generalize hxx : crcRun (s ^^^ 4294967295) (l.take k) = x at *
    have hx0 := hide hxx
    clear hxx
    have HS := hide hsn
    clear hsn
    by_cases hkn : k < n
    · have hkn' : (k : Int) < (n : Int) := by omega
      obtain ⟨b, o, rfl, hbb, hcell⟩ := (hr.below hbel).byte hkn
      have hr0 := hr
      clear hr
      generalize l.getD k 0 = y at *
      obtain ⟨z, hz, hy1, hz1, hcb⟩ := byte_step x y hlt0
      have HCB := hide hcb
      clear hcb
      obtain ⟨h1, hl1, ha1, hm1, hx1, hlt1⟩ := half_step z hz
      generalize crcHalf z = z1 at *
      obtain ⟨h2, hl2, ha2, hm2, hx2, hlt2⟩ := half_step z1 hlt1
      generalize crcHalf z1 = z2 at *
      go_wp2_with (first | (go_at_call 54; refine (look_any g _ _ (by first | exact hl1 | exact hl2) hb).mono ?_; rintro e w' ⟨rfl, rfl⟩))
      go_roundw
      case rel =>
        have hl := hr0.blen
        exact ⟨k + 1, by omega, by go_num, by rw [HS.out (by omega), HCB.out], hbel, hb⟩
      case measure => simp [intOf]; omega
    · have hk' : ¬ (k : Int) < (n : Int) := by omega
      go_wp2_with fail
      go_ret
      have hl := hr.blen
      rw [List.take_of_length_le (by omega)] at hx0
      refine ⟨ret_int ?_, hbel⟩
      rw [show IntKind.u32.max = (4294967295 : Int) from rfl, u32_not x hlt0]
      unfold crcUpd; rw [hx0.out]

end Go.Proofs.Ytbpodmgogokpiaa
