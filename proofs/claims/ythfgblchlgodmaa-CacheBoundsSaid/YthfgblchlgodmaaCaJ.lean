/- Known values at the bounds of a cache (plain part of CacheBounds). Conditions: those of each theorem. -/
import Derived.Test.YthfgblchlgodmaaCaI
namespace Go.Proofs.Ythfgblchlgodmaa
open Go.RowKit
set_option linter.unusedVariables false

def sA : ByteArray := ⟨#[97]⟩
def sB : ByteArray := ⟨#[98]⟩
def sX : ByteArray := ⟨#[120]⟩
def sY : ByteArray := ⟨#[121]⟩
/-- the bytes of the t-th name -/
def nm (t : Nat) : List UInt8 := [UInt8.ofNat (97 + t % 26), UInt8.ofNat (97 + t / 26 % 26), UInt8.ofNat (97 + t / 676 % 26), UInt8.ofNat (97 + t / 17576)]
def nmS (t : Nat) : ByteArray := ⟨(nm t ++ [95]).toArray⟩
def enN (S : Value) (t : Nat) : List KV := (sA, S) :: (List.range t).map (fun j => (nmS j, .string sX))
theorem enN_length (S : Value) (t : Nat) : (enN S t).length = t + 1 := by simp [enN]
theorem ofNat_nat {k : Nat} (h : k < 256) : (UInt8.ofNat k).toNat = k := by
  rw [UInt8.toNat_ofNat']
  exact Nat.mod_eq_of_lt h
theorem ofNat_inj {a b : Nat} (ha : a < 256) (hb : b < 256) (h : UInt8.ofNat a = UInt8.ofNat b) : a = b := by
  rw [← ofNat_nat ha, ← ofNat_nat hb, h]
theorem nm_inj {a b : Nat} (ha : a < 65535) (hb : b < 65535) (h : nmS a = nmS b) : a = b := by
  have h1 : nm a ++ [95] = nm b ++ [95] := by
    have := congrArg (fun s : ByteArray => s.data.toList) h
    simpa [nmS] using this
  have h2 := List.append_cancel_right h1
  simp only [nm, List.cons.injEq, and_true] at h2
  obtain ⟨e0, e1, e2, e3⟩ := h2
  have f0 := ofNat_inj (by omega) (by omega) e0
  have f1 := ofNat_inj (by omega) (by omega) e1
  have f2 := ofNat_inj (by omega) (by omega) e2
  have f3 := ofNat_inj (by omega) (by omega) e3
  omega
theorem nmS_size (t : Nat) : (nmS t).size = 5 := rfl
theorem nmS_ne {t : Nat} {s : ByteArray} (h : s.size = 1) : nmS t ≠ s := fun e => by
  have := nmS_size t
  rw [e] at this
  omega
theorem name_ofNat {k : Nat} (h1 : 97 ≤ k) (h2 : k ≤ 122) : nameB (UInt8.ofNat k) = true := by
  rw [nameB_nat, ofNat_nat (by omega)]
  simp [h1, h2]
theorem nameS_nm {t : Nat} (ht : t < 65535) : nameS (nmS t) = true := by
  unfold nameS
  rw [nmS_size]
  have h : allB (nmS t).data.toList = true := by
    show allB (nm t ++ [95]) = true
    unfold allB nm
    simp only [List.cons_append, List.nil_append, List.all_cons, List.all_nil, Bool.and_true, Bool.and_eq_true]
    exact ⟨name_ofNat (by omega) (by omega), name_ofNat (by omega) (by omega), name_ofNat (by omega) (by omega), name_ofNat (by omega) (by omega), by decide⟩
  rw [h]
  rfl
theorem look_none {kvs : List KV} {k : ByteArray} (h : ∀ p ∈ kvs, p.1 ≠ k) : lookS kvs k = none := by
  unfold lookS
  rw [List.find?_eq_none.2 (fun p hp => by simpa using h p hp)]
  rfl
theorem put_none {kvs : List KV} {k : ByteArray} (v : Value) (h : lookS kvs k = none) : putS kvs k v = kvs ++ [(k, v)] := by
  induction kvs with
  | nil => rfl
  | cons p r ih =>
    unfold lookS at h
    by_cases hp : p.1 = k
    · rw [List.find?_cons_of_pos (by simpa using hp)] at h
      cases h
    · rw [List.find?_cons_of_neg (by simpa using hp)] at h
      unfold putS
      rw [if_neg hp, ih h]
      rfl
theorem enN_none {S : Value} {t : Nat} (ht : t < 65535) : lookS (enN S t) (nmS t) = none := look_none fun p hp => by
  rcases List.mem_cons.1 hp with rfl | hp
  · exact fun e => nmS_ne (s := sA) rfl e.symm
  · obtain ⟨j, hj, rfl⟩ := List.mem_map.1 hp
    have := List.mem_range.1 hj
    exact fun e => by have := nm_inj (by omega) ht e; omega
theorem enN_b {S : Value} {t : Nat} : lookS (enN S t) sB = none := look_none fun p hp => by
  rcases List.mem_cons.1 hp with rfl | hp
  · exact (by decide : sA ≠ sB)
  · obtain ⟨j, hj, rfl⟩ := List.mem_map.1 hp
    exact nmS_ne rfl
theorem enN_a {S : Value} {t : Nat} : lookS (enN S t) sA = some S := by
  unfold lookS enN
  rw [List.find?_cons_of_pos (by simp)]
  rfl
theorem enN_succ (S : Value) (t : Nat) : enN S (t + 1) = enN S t ++ [(nmS t, .string sX)] := by
  simp [enN, List.range_succ]
theorem room_yes {n : Nat} {kind : List KV} {key script : ByteArray} (hs : script.size ≤ 1048576) (h : (lookS kind key).isSome = true ∨ n < 65536) : roomC n kind key script = true := by
  unfold roomC
  rw [decide_eq_true hs]
  rcases h with h | h
  · rw [h]; rfl
  · rw [decide_eq_true h]; simp
theorem room_no {n : Nat} {kind : List KV} {key script : ByteArray} (h : 1048576 < script.size ∨ lookS kind key = none ∧ 65536 ≤ n) : roomC n kind key script = false := by
  unfold roomC
  rcases h with h | ⟨h1, h2⟩
  · rw [show decide (script.size ≤ 1048576) = false from decide_eq_false (by omega)]; rfl
  · rw [h1, show decide (n < 65536) = false from decide_eq_false (by omega)]; simp
theorem load_nm {S : Value} {t : Nat} (ht : t < 65535) : loadE (t + 1) (enN S t) (nmS t) sX = 0 ∧ loadC (t + 1) (enN S t) (nmS t) sX = enN S (t + 1) := by
  obtain ⟨h1, h2⟩ := load_yes (n := t + 1) (ns := enN S t) (script := sX) (nameS_nm ht)
  have hr : roomC (t + 1) (enN S t) (nmS t) sX = true := room_yes (by decide) (.inr (by omega))
  rw [h1, h2, (putE_yes hr).1, (putE_yes hr).2, put_none _ (enN_none ht), enN_succ]
  exact ⟨rfl, rfl⟩
theorem load_b {S : Value} : loadE 65536 (enN S 65535) sB sX = 3 ∧ loadC 65536 (enN S 65535) sB sX = enN S 65535 := by
  obtain ⟨h1, h2⟩ := load_yes (n := 65536) (ns := enN S 65535) (name := sB) (script := sX) (by decide +kernel)
  have hr : roomC 65536 (enN S 65535) sB sX = false := room_no (.inr ⟨enN_b, Nat.le_refl _⟩)
  rw [h1, h2, (putE_no hr).1, (putE_no hr).2]
  exact ⟨rfl, rfl⟩
theorem load_a {S : Value} : loadE 65536 (enN S 65535) sA sY = 0 ∧ loadC 65536 (enN S 65535) sA sY = enN (.string sY) 65535 := by
  obtain ⟨h1, h2⟩ := load_yes (n := 65536) (ns := enN S 65535) (name := sA) (script := sY) (by decide +kernel)
  have hr : roomC 65536 (enN S 65535) sA sY = true := room_yes (by decide) (.inl (by rw [enN_a]; rfl))
  rw [h1, h2, (putE_yes hr).1, (putE_yes hr).2]
  refine ⟨rfl, ?_⟩
  unfold enN putS
  rw [if_pos rfl]
def reN : List KV := (List.range 65535).map (fun j => (nmS j, .string sX))
theorem reN_length : reN.length = 65535 := by unfold reN; rw [List.length_map, List.length_range]
theorem unload_a {S : Value} : unloadE (enN S 65535) sA = 0 ∧ unloadC (enN S 65535) sA = reN := by
  obtain ⟨h1, h2⟩ := unload_some (ns := enN S 65535) (name := sA) (v := S) (by decide +kernel) enN_a
  rw [h1, h2]
  refine ⟨rfl, ?_⟩
  unfold enN delS
  rw [if_pos rfl]
  rfl
theorem load_long {s : ByteArray} (h : 1048576 < s.size) : loadE 0 [] sA s = 3 ∧ loadC 0 [] sA s = [] := by
  obtain ⟨h1, h2⟩ := load_yes (n := 0) (ns := []) (name := sA) (script := s) (by decide +kernel)
  have hr : roomC 0 [] sA s = false := room_no (.inl h)
  rw [h1, h2, (putE_no hr).1, (putE_no hr).2]
  exact ⟨rfl, rfl⟩
theorem load_fit {s : ByteArray} (h : s.size ≤ 1048576) : loadE 0 [] sA s = 0 ∧ loadC 0 [] sA s = enN (.string s) 0 := by
  obtain ⟨h1, h2⟩ := load_yes (n := 0) (ns := []) (name := sA) (script := s) (by decide +kernel)
  have hr : roomC 0 [] sA s = true := room_yes h (.inr (by decide))
  rw [h1, h2, (putE_yes hr).1, (putE_yes hr).2]
  exact ⟨rfl, rfl⟩
theorem put_full : putE 65536 [] (digS sX) sX = 3 ∧ putC 65536 [] (digS sX) sX = [] := by
  have hr : roomC 65536 [] (digS sX) sX = false := room_no (.inr ⟨rfl, Nat.le_refl _⟩)
  exact putE_no hr
theorem put_last : putE 65535 [] (digS sX) sX = 0 ∧ putC 65535 [] (digS sX) sX = [(digS sX, .string sX)] := by
  have hr : roomC 65535 [] (digS sX) sX = true := room_yes (by decide) (.inr (by decide))
  exact putE_yes hr
theorem bounds_bytes : ∃ l : List UInt8, List.replicate 1048577 (Value.int .u8 0) = bvs l ∧ (⟨l.toArray⟩ : ByteArray).size = 1048577 := by
  refine ⟨List.replicate 1048577 0, ?_, ?_⟩
  · unfold bvs; rw [List.map_replicate]; rfl
  · show (List.replicate 1048577 (0 : UInt8)).toArray.size = 1048577
    rw [List.size_toArray, List.length_replicate]
theorem cut_size {s : ByteArray} (h : s.size = 1048577) : (s.extract 0 1048576).size = 1048576 := by
  rw [ByteArray.size_extract, h]; rfl
end Go.Proofs.Ythfgblchlgodmaa
