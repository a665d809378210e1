/- Which lists bytes begin with (plain); the iterator of Scan, as a range over it is told (package frames). Conditions: those of each theorem. -/
import Derived.Test.YtbpodmgogokpiaaFrH
import Derived.Test.YtbpodmgogokpiaaRangeP
namespace Go.Proofs.Ytbpodmgogokpiaa
open Go.RowKit Go.Shelf
set_option linter.unusedVariables false
attribute [local go_sem] Oper.semAt_some

def scanN : Nat → List UInt8 → List (List ByteArray) × Nat
  | 0, _ => ([], 0)
  | f + 1, b => if b.length = 0 then ([], 0) else match readF b with
    | .inl _ => ([], 0)
    | .inr (l, k) => (l :: (scanN f (b.drop k)).1, k + (scanN f (b.drop k)).2)
theorem scanN_more : ∀ (f g : Nat) (b : List UInt8), b.length ≤ f → b.length ≤ g → scanN f b = scanN g b
  | 0, 0, _, _, _ => rfl
  | 0, g + 1, b, h, _ => by
    unfold scanN
    rw [if_pos (by omega)]
  | f + 1, 0, b, _, h => by
    unfold scanN
    rw [if_pos (by omega)]
  | f + 1, g + 1, b, h1, h2 => by
    unfold scanN
    split
    · rfl
    · cases hx : readF b with
      | inl e => rfl
      | inr p =>
        obtain ⟨l, k⟩ := p
        have := readF_le hx
        simp only
        rw [scanN_more f g (b.drop k) (by rw [List.length_drop]; omega) (by rw [List.length_drop]; omega)]
def scanF (b : List UInt8) : List (List ByteArray) × Nat := scanN b.length b
theorem scanF_nil : scanF [] = ([], 0) := rfl
theorem scanF_no {b : List UInt8} {e : Nat} (h : readF b = .inl e) : scanF b = ([], 0) := by
  unfold scanF
  rcases Nat.eq_zero_or_pos b.length with h0 | h0
  · rw [h0]; rfl
  · obtain ⟨m, hm⟩ : ∃ m, b.length = m + 1 := ⟨b.length - 1, by omega⟩
    rw [hm]
    unfold scanN
    rw [if_neg (by omega), h]
theorem scanF_yes {b : List UInt8} {l : List ByteArray} {k : Nat} (h : readF b = .inr (l, k)) : scanF b = (l :: (scanF (b.drop k)).1, k + (scanF (b.drop k)).2) := by
  have hk := readF_le h
  unfold scanF
  obtain ⟨m, hm⟩ : ∃ m, b.length = m + 1 := ⟨b.length - 1, by omega⟩
  rw [hm]
  conv => lhs; unfold scanN
  rw [if_neg (by omega), h]
  simp only
  rw [scanN_more m (b.drop k).length (b.drop k) (by rw [List.length_drop]; omega) (Nat.le_refl _)]
theorem readF_err {b : List UInt8} {e : Nat} (h : readF b = .inl e) : e = 120 ∨ e = 121 := by
  unfold readF at h
  split at h
  · injection h with h; exact .inl h.symm
  · split at h
    · injection h with h; exact .inr h.symm
    · split at h
      · injection h with h; exact .inl h.symm
      · split at h
        · injection h with h; exact .inr h.symm
        · split at h
          · injection h with h; exact .inr h.symm
          · cases h

/-- a list that came, and where it ends -/
structure SPart where
  A : Option Addr
  n : Nat
  c : Nat
  l : List ByteArray
  e : Nat
def encS (x : SPart) : Array Value := #[.slice x.A x.n x.c, .int .i64 x.e]
def lastE (xs : List SPart) : Nat := (xs.getLast?.map (·.e)).getD 0
theorem lastE_snoc (xs : List SPart) (x : SPart) : lastE (xs ++ [x]) = x.e := by simp [lastE]
def RxS (B : Nat) (x : SPart) (W : World) : Prop := W.ownsRow B 9 1 (.slice x.A x.n x.c) x.n (svs x.l)
def KeepsS (S : Nat → Prop) (W W' : World) : Prop := W.heap.size ≤ W'.heap.size ∧ ∀ b o v, S b → W.cell? ⟨b, o, none⟩ = some v → W'.cell? ⟨b, o, none⟩ = some v
theorem KeepsS.trans {S : Nat → Prop} {X Y Z : World} (h : KeepsS S X Y) (k : KeepsS S Y Z) : KeepsS S X Z := ⟨Nat.le_trans h.1 k.1, fun b o v hb hv => k.2 b o v hb (h.2 b o v hb hv)⟩
theorem keepsS_putObj {S : Nat → Prop} (W : World) (l : Nat) (o o' : Obj) (h : W.heap[l]? = some o) (hc : o.isCells = false) : KeepsS S W (W.putObj l o') :=
  ⟨by simp [World.putObj], fun b q v _ hv => cell_kept hv (grownBy_putObj' W l o') (fun r e => by cases e; exact ⟨o, h, hc⟩)⟩
theorem Reads.kept {W W' : World} {B B' n : Nat} {A : Option Addr} {xs : List Value} (h : Reads W B 1 A n xs) (hB : B ≤ B') (hc : 0 < n → ∀ b o q v, A = some ⟨b, o, none⟩ → W.cell? ⟨b, q, none⟩ = some v → W'.cell? ⟨b, q, none⟩ = some v) : Reads W' B' 1 A n xs :=
  ⟨h.1, fun hn => by
    obtain ⟨b, o, e, hb, hx⟩ := h.2 hn
    exact ⟨b, o, e, by omega, fun j u hu => hc hn _ _ _ _ e (hx j u hu)⟩⟩

/-- bytes behind a place -/
theorem Reads.behind' {w : World} {B : Nat} {A : Option Addr} {n c k : Nat} {l : List UInt8} (h : Reads w B 1 A n (bvs l)) (hk : k < n) (hc : n ≤ c) : Reads w B 1 (A.map (·.add k)) (n - k) (bvs (l.drop k)) := by
  have h1 := h.cut (k := k) (m := n - k) (cap := c) (by omega) hc
  rw [if_neg (by omega), bvs_drop, bvs_take, List.take_of_length_le (by rw [List.length_drop, h.blen]; exact Nat.le_refl _)] at h1
  exact h1
set_option maxHeartbeats 4000000 in
theorem rows_told (m : Nat) (bx : Nat) (A : Option Addr) (n c : Nat) (b : List UInt8) (w : World) (hbx : w.cell? ⟨bx, 0, none⟩ = some (.slice A n c)) (hbl : bx < w.heap.size)
    (hr : Reads w w.heap.size 1 A n (bvs b)) (hc : n ≤ c) (hcm : c ≤ maxLen) (hn : n ≤ 100000000) :
    SeqToldP Fence.wide m Try.prog 50 #[.pointer (some ⟨bx, 0, none⟩)] encS (fun pre x W => RxS w.heap.size x W ∧ pre.length ≤ n) (KeepsS (fun k => k = bx ∨ 0 < n ∧ ∃ o, A = some ⟨k, o, none⟩)) (fun xs => xs.map (·.l) = (scanF b).1 ∧ lastE xs = (scanF b).2) w := by
  intro lp J W hW hJ hY h0
  have hbx' := (hW.cell (p := ⟨bx, 0, none⟩) hbl).trans hbx
  have hr' : Reads W W.heap.size 1 A n (bvs b) := (hr.below hW).more hW.size
  have HL := hide hr.blen
  refine callsIn_of_wp Try.func50 rfl trivial ?_ rfl
  simp only [Try.ntmps50, List.size_toArray, List.length_cons, List.length_nil, Nat.reduceAdd, Nat.reduceSub, Array.replicate_succ, Array.replicate_zero, List.push_toArray, List.append_toArray, List.nil_append, List.cons_append]
  gi_wp2_with fail
  gi_loopw [3] (fun i wr => ∃ (p : Nat) (pre : List SPart), i = .int .i64 p ∧ p ≤ n ∧ pre.length ≤ p ∧ lastE pre = p ∧ (scanF b).1 = pre.map (·.l) ++ (scanF (b.drop p)).1 ∧ (scanF b).2 = p + (scanF (b.drop p)).2 ∧ Reads wr wr.heap.size 1 A n (bvs b) ∧ wr.cell? ⟨bx, 0, none⟩ = some (.slice A n c) ∧ W.heap.size ≤ wr.heap.size ∧ J pre wr)
    (fun i _ => n - (intOf i).toNat)
  case atStart => exact ⟨0, [], rfl, by omega, by simp, rfl, by simp, by simp, hr', hbx', Nat.le_refl _, h0⟩
  case round =>
    obtain ⟨p, pre, rfl, hp, hpl, hle, hs1, hs2, hrd, hcb, hz, hJp⟩ := hrel
    have HLE := hide hle
    have HS1 := hide hs1
    have HS2 := hide hs2
    clear hle hs1 hs2
    have hbxl : bx < wr.heap.size := by have := hW.size; omega
    by_cases hpn : p < n
    · have hpI : (p : Int) < (n : Int) := by omega
      have hp0 : (0 : Int) ≤ (p : Int) := by omega
      have hpnI : (p : Int) ≤ (n : Int) := by omega
      have hcp : ¬ c = p := by omega
      have hrb := hrd.behind' (k := p) (c := c) hpn hc
      have hw0 : W.heap.size ≤ wr.heap.size := hz
      cases hx : readF (b.drop p) with
      | inl e =>
        have HX := hide hx
        have HSN := hide (scanF_no hx)
        have hee := readF_err hx
        clear hx
        have hdone : ∀ w2, Below wr.heap.size wr w2 → J pre w2 := fun w2 hb => hJ pre wr w2 none hJp ⟨hb.os, hb.tape, hb.output, hb.size, fun k hk _ => hb.block k hk⟩ (fun r e => by cases e)
        have HD := hide hdone
        clear hdone
        have hne1 : ((120 : Int) != 0) = true := by decide
        have hne2 : ((121 : Int) != 0) = true := by decide
        rcases hee with rfl | rfl
        all_goals
          gi_wp2_with fail
          refine ⟨trivial, fun h => (by cases h), (callsIn_wide.2 (read_no (A.map (·.add p)) (n - p) (c - p) _ (b.drop p) wr hrb (by omega) (by omega) (by omega) HX.out)).mono ?_⟩
          rintro x w2 ⟨rfl, hb2⟩
          gi_wp2_with fail
          refine ⟨fun f h => (by cases h), ?_⟩
          gi_wp2_with fail
          refine bodyPost_ret (results_none rfl _ _ _) rfl ⟨⟨_, rfl⟩, pre, ⟨?_, ?_⟩, HD.out w2 hb2⟩
          · have := HS1.out
            rw [HSN.out] at this
            rw [this]; simp
          · have := HS2.out
            rw [HSN.out] at this
            rw [this, HLE.out]; simp
      | inr q =>
        obtain ⟨l, k⟩ := q
        have HX := hide hx
        have HSY := hide (scanF_yes hx)
        have hk := readF_le hx
        rw [List.length_drop, HL.out] at hk
        clear hx
        have hkn : p + k ≤ n := by omega
        have hk8 := hk.1
        gi_wp2_with fail
        refine ⟨trivial, fun h => (by cases h), (callsIn_wide.2 (read_yes (A.map (·.add p)) (n - p) (c - p) k l (b.drop p) wr hrb (by omega) (by omega) (by omega) HX.out)).mono ?_⟩
        rintro x w2 ⟨v, rfl, ho2, hb2⟩
        obtain ⟨Av, cv, rfl, hcv1, hcv2⟩ := own_slice ho2
        have hJ2 : J pre w2 := hJ pre wr w2 none hJp ⟨hb2.os, hb2.tape, hb2.output, hb2.size, fun k hk _ => hb2.block k hk⟩ (fun r e => by cases e)
        have hrx : RxS w.heap.size ⟨Av, l.length, cv, l, p + k⟩ w2 := own_base ho2 (by have := hW.size; omega)
        obtain ⟨fn, tmps, assign, body, hy, hR⟩ := hY pre ⟨Av, l.length, cv, l, p + k⟩ w2 hJ2 ⟨hrx, by omega⟩
        dsimp only [encS] at hy
        rw [Int.natCast_add] at hy
        have hrd2 := (hrd.below hb2).more hb2.size
        have hcb2 : w2.cell? ⟨bx, 0, none⟩ = some (.slice A n c) := (hb2.cell (p := ⟨bx, 0, none⟩) hbxl).trans hcb
        have hz2 := hb2.size
        have hwk : IntKind.i64.wrap ((p : Int) + (k : Int)) = (p : Int) + (k : Int) := by rw [IntKind.wrap_i64]; omega
        gi_wp2_with fail
        refine ⟨fun h => (by cases h), hR.mono ?_⟩
        rintro e W3 ⟨rfl, hJ3, hk3⟩
        gi_wp2_with fail
        go_roundw
        case rel =>
          refine ⟨p + k, pre ++ [⟨Av, l.length, cv, l, p + k⟩], by simp, hkn, by rw [List.length_append]; simp; omega, by rw [lastE_snoc], ?_, ?_, hrd2.kept hk3.1 (fun h0 b' o' q v hA hv => hk3.2 b' q v (.inr ⟨h0, o', hA⟩) hv), hk3.2 bx 0 _ (.inl rfl) hcb2, by have := hk3.1; omega, hJ3⟩
          · rw [HS1.out, HSY.out, List.drop_drop]
            simp
          · rw [HS2.out, HSY.out, List.drop_drop]
            omega
        case measure => simp [intOf]; omega
    · have hpI : ¬ (p : Int) < (n : Int) := by omega
      obtain rfl : p = n := by omega
      have hnil : b.drop p = [] := List.eq_nil_of_length_eq_zero (by rw [List.length_drop, HL.out]; omega)
      have HNIL := hide hnil
      clear hnil
      gi_wp2_with fail
      go_end0
      refine ⟨⟨_, rfl⟩, pre, ⟨?_, ?_⟩, hJp⟩
      · have := HS1.out
        rw [HNIL.out, scanF_nil] at this
        rw [this]; simp
      · have := HS2.out
        rw [HNIL.out, scanF_nil] at this
        rw [this, HLE.out]; simp
end Go.Proofs.Ytbpodmgogokpiaa
