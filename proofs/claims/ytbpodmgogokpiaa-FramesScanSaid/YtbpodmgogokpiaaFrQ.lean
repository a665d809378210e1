/- A frame is read as it was framed, whatever stands behind; a shorter beginning is too short; another byte behind the first four is found (plain law). Conditions: those of each theorem. -/
import Derived.Test.YtbpodmgogokpiaaFrD
import Derived.Test.YtbpodmgogokpiaaFrI
import Derived.Test.YtbpodmgogokpiaaCrcLaw
namespace Go.Proofs.Ytbpodmgogokpiaa
open Go.RowKit
set_option linter.unusedVariables false

theorem xor_zero_eq {a b : Nat} (h : a ^^^ b = 0) : a = b := by
  have h1 : (a ^^^ b) ^^^ b = a := by rw [Nat.xor_assoc, Nat.xor_self, Nat.xor_zero]
  rw [h, Nat.zero_xor] at h1
  exact h1.symm
theorem refBit_zero {n : Nat} (hn : n < 4294967296) (h : refBit n = 0) : n = 0 := by
  unfold refBit at h
  split at h
  · have := xor_zero_eq h
    omega
  · omega
theorem refBits_zero {n : Nat} (hn : n < 4294967296) : ∀ k, refBits k n = 0 → n = 0
  | 0, h => h
  | k + 1, h => refBits_zero hn k (refBit_zero (refBits_lt n hn k) h)
theorem refBits_inj {a b : Nat} (ha : a < 4294967296) (hb : b < 4294967296) (k : Nat) (h : refBits k a = refBits k b) : a = b := by
  apply xor_zero_eq
  apply refBits_zero (Nat.xor_lt_two_pow (n := 32) ha hb) k
  rw [refBits_xor, h, Nat.xor_self]
theorem xor_left {a b c : Nat} (h : a ^^^ b = a ^^^ c) : b = c := by
  have h1 : a ^^^ (a ^^^ b) = b := by rw [← Nat.xor_assoc, Nat.xor_self, Nat.zero_xor]
  have h2 : a ^^^ (a ^^^ c) = c := by rw [← Nat.xor_assoc, Nat.xor_self, Nat.zero_xor]
  rw [← h1, h, h2]
theorem refByte_one {n : Nat} (hn : n < 4294967296) {a b : UInt8} (h : refByte n a = refByte n b) : a = b := by
  unfold refByte at h
  have ha := a.toNat_lt
  have hb := b.toNat_lt
  have h1 := refBits_inj (Nat.xor_lt_two_pow (n := 32) hn (by omega)) (Nat.xor_lt_two_pow (n := 32) hn (by omega)) 8 h
  exact UInt8.toNat_inj.mp (xor_left h1)
theorem refByte_two {n m : Nat} (hn : n < 4294967296) (hm : m < 4294967296) {a : UInt8} (h : refByte n a = refByte m a) : n = m := by
  unfold refByte at h
  have ha := a.toNat_lt
  have h1 := refBits_inj (Nat.xor_lt_two_pow (n := 32) hn (by omega)) (Nat.xor_lt_two_pow (n := 32) hm (by omega)) 8 h
  rw [Nat.xor_comm n, Nat.xor_comm m] at h1
  exact xor_left h1
theorem refRun_two : ∀ (l : List UInt8) {n m : Nat}, n < 4294967296 → m < 4294967296 → refRun n l = refRun m l → n = m
  | [], _, _, _, _, h => h
  | b :: r, n, m, hn, hm, h => refByte_two hn hm (refRun_two r (refByte_lt n b hn) (refByte_lt m b hm) h)
theorem refRun_app (n : Nat) (a b : List UInt8) : refRun n (a ++ b) = refRun (refRun n a) b := by unfold refRun; rw [List.foldl_append]
theorem refUpd_one {x y : List UInt8} {a b : UInt8} (h : refUpd 0 (x ++ a :: y) = refUpd 0 (x ++ b :: y)) : a = b := by
  unfold refUpd at h
  rw [Nat.xor_comm _ 4294967295, Nat.xor_comm (refRun _ (x ++ b :: y)) 4294967295] at h
  have h1 := xor_left h
  rw [refRun_app, refRun_app] at h1
  have hM : (0 : Nat) ^^^ 4294967295 < 4294967296 := by decide
  have hx := refRun_lt x _ hM
  have h2 : refByte (refRun (0 ^^^ 4294967295) x) a = refByte (refRun (0 ^^^ 4294967295) x) b :=
    refRun_two y (refByte_lt _ a hx) (refByte_lt _ b hx) h1
  exact refByte_one hx h2
theorem sumF_set {l : List UInt8} {j : Nat} {v : UInt8} (hj : j < l.length) (h : sumF (l.set j v) = sumF l) : l[j] = v := by
  rw [sumF_ref, sumF_ref, List.length_set] at h
  have e1 : l.set j v = l.take j ++ v :: l.drop (j + 1) := List.set_eq_take_append_cons_drop .. |>.trans (by rw [if_pos hj])
  have e2 : l = l.take j ++ l[j] :: l.drop (j + 1) := by rw [← List.drop_eq_getElem_cons hj, List.take_append_drop]
  rw [e1] at h
  have h' : refUpd 0 ((le4 l.length ++ l.take j) ++ v :: l.drop (j + 1)) = refUpd 0 ((le4 l.length ++ l.take j) ++ l[j] :: l.drop (j + 1)) := by
    rw [List.append_assoc, List.append_assoc, h, ← e2]
  exact (refUpd_one h').symm

theorem textsN_flat : ∀ (l : List ByteArray) (r : List UInt8), (∀ s ∈ l, s.size < 4294967296) →
    textsN l.length ((l.map fun s => le4 s.size ++ s.data.toList).flatten ++ r) = some (l, r)
  | [], r, _ => by simp [textsN]
  | s :: l, r, h => by
    have hs := h s (by simp)
    have hi := textsN_flat l r fun x hx => h x (by simp [hx])
    have hsz : s.data.toList.length = s.size := Array.length_toList
    rw [List.map_cons, List.flatten_cons, List.length_cons, textsN]
    generalize hF : (l.map fun s => le4 s.size ++ s.data.toList).flatten ++ r = F at hi
    have e : le4 s.size ++ s.data.toList ++ (l.map fun s => le4 s.size ++ s.data.toList).flatten ++ r = le4 s.size ++ (s.data.toList ++ F) := by
      rw [← hF]; simp [List.append_assoc]
    rw [e, of4_le4 _ hs, List.length_append, le4_length, List.length_append, hsz, if_neg (by omega), if_neg (by omega)]
    have hd : (le4 s.size ++ (s.data.toList ++ F)).drop 4 = s.data.toList ++ F := List.drop_left' (le4_length _)
    rw [hd]
    have hd2 : (s.data.toList ++ F).drop s.size = F := List.drop_left' hsz
    have ht2 : (s.data.toList ++ F).take s.size = s.data.toList := List.take_left' hsz
    rw [hd2, ht2, hi]
theorem textsB_body (l : List ByteArray) (hn : l.length ≤ 65536) (hs : ∀ s ∈ l, s.size < 4294967296) : textsB (bodyF l) = some l := by
  have e : bodyF l = le4 l.length ++ ((l.map fun s => le4 s.size ++ s.data.toList).flatten ++ []) := by
    unfold bodyF bodyT
    rw [List.take_length, List.append_nil]
  have ho : of4 (bodyF l) = l.length := by rw [e, of4_le4 _ (by omega)]
  refine textsB_some ?_ ?_ ?_
  · rw [e, List.length_append, le4_length]; omega
  · rw [ho]; omega
  · have hd : (bodyF l).drop 4 = (l.map fun s => le4 s.size ++ s.data.toList).flatten ++ [] := by rw [e]; exact List.drop_left' (le4_length _)
    rw [ho, hd]
    exact textsN_flat l [] hs

theorem frameF_app (l : List ByteArray) (r : List UInt8) : frameF l ++ r = le4 (bodyF l).length ++ (le4 (sumF (bodyF l)) ++ (bodyF l ++ r)) := by
  unfold frameF; simp [List.append_assoc]
theorem frameF_len (l : List ByteArray) : (frameF l).length = 8 + (bodyF l).length := by
  unfold frameF; rw [List.length_append, List.length_append, le4_length, le4_length]
theorem readF_frame (l : List ByteArray) (r : List UInt8) (hn : l.length ≤ 65536) (hb : (bodyF l).length ≤ 1048576) (hs : ∀ s ∈ l, s.size < 4294967296) :
    readF (frameF l ++ r) = .inr (l, (frameF l).length) := by
  have ht := textsB_body l hn hs
  have hS := sumF_lt (bodyF l)
  rw [frameF_len, frameF_app]
  generalize bodyF l = B at *
  generalize hSS : sumF B = S at *
  have ho : of4 (le4 B.length ++ (le4 S ++ (B ++ r))) = B.length := of4_le4 _ (by omega) _
  have hd4 : (le4 B.length ++ (le4 S ++ (B ++ r))).drop 4 = le4 S ++ (B ++ r) := List.drop_left' (le4_length _)
  have hd8 : (le4 B.length ++ (le4 S ++ (B ++ r))).drop 8 = B ++ r := by
    rw [show 8 = 4 + 4 from rfl, ← List.drop_drop, hd4]; exact List.drop_left' (le4_length _)
  have hlen : (le4 B.length ++ (le4 S ++ (B ++ r))).length = 8 + B.length + r.length := by
    simp only [List.length_append, le4_length]; omega
  unfold readF
  rw [ho, hd4, hd8, hlen, if_neg (by omega), if_neg (by omega), if_neg (by omega), List.take_left' rfl, of4_le4 _ hS, hSS, if_neg (by simp), ht]
theorem readF_cut (l : List ByteArray) (k : Nat) (hk : k < (frameF l).length) (hb : (bodyF l).length ≤ 1048576) :
    readF ((frameF l).take k) = .inl 120 := by
  have hlen : ((frameF l).take k).length = k := by rw [List.length_take]; omega
  unfold readF
  rw [hlen]
  by_cases h8 : k < 8
  · rw [if_pos h8]
  · have ho : of4 ((frameF l).take k) = (bodyF l).length := by
      have e := frameF_app l []
      rw [List.append_nil, List.append_nil] at e
      rw [e, List.take_append, List.take_of_length_le (by rw [le4_length]; omega)]
      exact of4_le4 _ (by omega) _
    rw [frameF_len] at hk
    rw [ho, if_neg h8, if_neg (by omega), if_pos (by omega)]
theorem readF_spoilt (l : List ByteArray) (k : Nat) (v : UInt8) (h4 : 4 ≤ k) (hk : k < (frameF l).length) (hv : (frameF l)[k] ≠ v) (hb : (bodyF l).length ≤ 1048576) :
    readF ((frameF l).set k v) = .inl 121 := by
  have hS := sumF_lt (bodyF l)
  have e := frameF_app l []
  rw [List.append_nil, List.append_nil] at e
  have hfl := frameF_len l
  have hv' : (frameF l)[k]? ≠ some v := by rw [List.getElem?_eq_getElem hk]; exact fun h => hv (by injection h)
  clear hv
  rw [hfl] at hk
  have hset : (frameF l).set k v = le4 (bodyF l).length ++ (le4 (sumF (bodyF l)) ++ bodyF l).set (k - 4) v := by
    rw [e, List.set_append_right _ _ (by rw [le4_length]; exact h4), le4_length]
  have hlen : ((frameF l).set k v).length = 8 + (bodyF l).length := by rw [List.length_set, hfl]
  have ho : of4 ((frameF l).set k v) = (bodyF l).length := by rw [hset]; exact of4_le4 _ (by omega) _
  have hd4 : ((frameF l).set k v).drop 4 = (le4 (sumF (bodyF l)) ++ bodyF l).set (k - 4) v := by rw [hset]; exact List.drop_left' (le4_length _)
  have hd8 : ((frameF l).set k v).drop 8 = ((le4 (sumF (bodyF l)) ++ bodyF l).set (k - 4) v).drop 4 := by
    rw [show 8 = 4 + 4 from rfl, ← List.drop_drop, hd4]
  have hk4 : (le4 (sumF (bodyF l)) ++ bodyF l)[k - 4]? ≠ some v := by
    intro h
    apply hv'
    rw [e, List.getElem?_append_right (by rw [le4_length]; exact h4), le4_length]
    exact h
  have key : sumF ((((le4 (sumF (bodyF l)) ++ bodyF l).set (k - 4) v).drop 4).take (bodyF l).length) ≠ of4 ((le4 (sumF (bodyF l)) ++ bodyF l).set (k - 4) v) := by
    generalize hj : k - 4 = j at *
    by_cases h8 : j < 4
    · have e2 : (le4 (sumF (bodyF l)) ++ bodyF l).set j v = (le4 (sumF (bodyF l))).set j v ++ bodyF l := List.set_append_left _ _ (by rw [le4_length]; exact h8)
      have hl4 : ((le4 (sumF (bodyF l))).set j v).length = 4 := by rw [List.length_set, le4_length]
      rw [e2, List.drop_left' hl4, List.take_length]
      intro h
      have h2 := le4_of4 (l := (le4 (sumF (bodyF l))).set j v ++ bodyF l) (by rw [List.length_append, hl4]; omega)
      rw [← h, List.take_left' hl4] at h2
      rw [List.getElem?_append_left (by rw [le4_length]; exact h8), h2] at hk4
      exact hk4 (List.getElem?_set_self (by rw [le4_length]; exact h8))
    · have e2 : (le4 (sumF (bodyF l)) ++ bodyF l).set j v = le4 (sumF (bodyF l)) ++ (bodyF l).set (j - 4) v := by
        rw [List.set_append_right _ _ (by rw [le4_length]; omega), le4_length]
      rw [e2, List.drop_left' (le4_length _), of4_le4 _ hS, List.take_of_length_le (by rw [List.length_set]; exact Nat.le_refl _)]
      intro h
      have hj4 : j - 4 < (bodyF l).length := by omega
      have h1 := sumF_set hj4 h
      rw [List.getElem?_append_right (by rw [le4_length]; omega), le4_length, List.getElem?_eq_getElem hj4, h1] at hk4
      exact hk4 rfl
  unfold readF
  rw [ho, hlen, hd4, hd8, if_neg (by omega), if_neg (by omega), if_neg (by omega), if_pos key]
end Go.Proofs.Ytbpodmgogokpiaa
