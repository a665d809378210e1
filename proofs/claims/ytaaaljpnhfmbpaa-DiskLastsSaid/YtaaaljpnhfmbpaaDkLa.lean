/- What was synced is there behind each crash; a crash that keeps all leaves all bytes; a crash of what one left leaves the same: plain, no program in sight. Conditions: those of each theorem. -/
import Derived.Test.YtaaaljpnhfmbpaaDkCq
namespace Go.Proofs.Ytaaaljpnhfmbpaa
open Go.RowKit
set_option linter.unusedVariables false
set_option linter.unusedSimpArgs false

theorem find_with {l : FL} (hr : Rise l) (x : FD) : findL (withL l x) x.1 = some x :=
  find_of (hr.with x).names ((with_perm l x).mem_iff.2 List.mem_cons_self) rfl
theorem find_crash {l : FL} (hr : Rise l) (ks : List Int) {k : ByteArray} {x : FD} (h : findL l k = some x) : ∃ i, findL (crashL ks l) k = some (crash1 ks i x) := by
  obtain ⟨hm, hk⟩ := find_mem h
  obtain ⟨i, hi, rfl⟩ := List.mem_iff_getElem.1 hm
  refine ⟨i, find_of (rise_crash ks hr).names ?_ hk⟩
  unfold crashL
  exact List.mem_mapIdx.2 ⟨i, hi, rfl⟩
theorem crash_again {l : FL} (hs : ∀ x ∈ l, x.2.2 ≤ x.2.1.length) (ks : List Int) : crashL [] (crashL ks l) = crashL ks l := by
  apply List.ext_getElem?
  intro i
  unfold crashL
  rw [List.getElem?_mapIdx, List.getElem?_mapIdx]
  cases hx : l[i]? with
  | none => rfl
  | some x =>
    simp only [Option.map_some]
    have h0 : ∀ n sy, moreN [] i n sy = 0 := fun n sy => moreN_none rfl n sy
    unfold crash1
    simp only [h0, Nat.add_zero, List.take_take, Nat.min_self]
theorem crash_all {l : FL} {n : Nat} (hs : ∀ x ∈ l, x.2.2 ≤ x.2.1.length) (hb : ∀ x ∈ l, x.2.1.length ≤ 1048576) (hn : l.length ≤ n) : crashL (List.replicate n 9223372036854775807) l = l.map fun x => (x.1, x.2.1, x.2.1.length) := by
  apply List.ext_getElem?
  intro i
  unfold crashL
  rw [List.getElem?_mapIdx, List.getElem?_map]
  cases hx : l[i]? with
  | none => rfl
  | some x =>
    have hi : i < l.length := (List.getElem?_eq_some_iff.1 hx).1
    have h1 := hs x (List.mem_of_getElem? hx)
    have h2 := hb x (List.mem_of_getElem? hx)
    have hk : (List.replicate n (9223372036854775807 : Int))[i]? = some 9223372036854775807 := by rw [List.getElem?_replicate, if_pos (by omega)]
    have h3 := moreN_some hk x.2.1.length x.2.2
    have h4 : x.2.2 + moreN (List.replicate n 9223372036854775807) i x.2.1.length x.2.2 = x.2.1.length := by omega
    simp only [Option.map_some]
    unfold crash1
    rw [h4, List.take_length]
theorem readE_zero {l : FL} {name : ByteArray} (h : readE l name = 0) : nameDS name = true ∧ ∃ x, findL l name = some x := by
  unfold readE at h
  cases hn : nameDS name with
  | false => rw [hn] at h; simp at h
  | true =>
    rw [hn] at h
    cases hf : findL l name with
    | none => rw [hf] at h; simp at h
    | some x => exact ⟨rfl, x, rfl⟩
theorem readE_some {l : FL} {name : ByteArray} {x : FD} (hn : nameDS name = true) (h : findL l name = some x) : readE l name = 0 := by
  unfold readE
  rw [hn, h]
  rfl
theorem readB_some {l : FL} {name : ByteArray} {x : FD} (hn : nameDS name = true) (h : findL l name = some x) : readB l name = x.2.1 := by
  unfold readB
  rw [if_pos (readE_some hn h)]
  unfold getL
  rw [h]
  rfl
theorem err_sync {L : FL} {name : ByteArray} {x : FD} {st lf : Int} (hn : nameDS name = true) (hf : findL L name = some x) : errP ⟨L, st, false, lf⟩ name .sync = 0 := by
  unfold errP refP
  simp [Cmd.names, Cmd.th, badL_one, hn, hf, ownP]
theorem err_sync0 {L : FL} {name : ByteArray} {st lf : Int} (hn : nameDS name = true) (hf : findL L name = none) : errP ⟨L, st, false, lf⟩ name .sync = 5 := by
  unfold errP refP
  simp [Cmd.names, Cmd.th, badL_one, hn, hf, ownP]
theorem err_app {L : FL} {name : ByteArray} {x : FD} {st lf : Int} {bs : List UInt8} (hn : nameDS name = true) (hf : findL L name = some x) (hb : x.2.1.length + bs.length ≤ 1048576) : errP ⟨L, st, false, lf⟩ name (.app bs) = 0 := by
  have hg : getL L name = x := by unfold getL; rw [hf]; rfl
  unfold errP refP
  simp only [Cmd.names, Cmd.th, badL_one, hn, hf, ownP, hg, if_neg (show ¬ 1048576 < x.2.1.length + bs.length by omega)]
  simp
/-- what was read behind a Sync, and what is read behind a crash -/
theorem lasts {L : FL} (hr : Rise L) (name : ByteArray) (bs : List UInt8) (ks : List Int) (hb : ∀ x ∈ L, x.2.1.length + bs.length ≤ 1048576) {d1 d2 : DS} (h1 : d1 = stepD ⟨L, 0, false, 0⟩ name .sync) (h2 : d2 = stepD d1 name (.app bs)) (h0 : readE d1.l name = 0) :
    errP d1 name (.app bs) = 0 ∧ readE (crashL ks d2.l) name = 0 ∧ (readB d1.l name).length ≤ (readB (crashL ks d2.l) name).length ∧ (readB (crashL ks d2.l) name).length ≤ (readB d1.l name).length + bs.length ∧ (readB (crashL ks d2.l) name).take (readB d1.l name).length = readB d1.l name := by
  obtain ⟨hn, y, hy⟩ := readE_zero h0
  cases hf : findL L name with
  | none =>
    exfalso
    have e : d1 = ⟨L, 0, false, 0⟩ := by rw [h1]; unfold stepD; rw [if_neg (by rw [err_sync0 hn hf]; decide)]
    rw [e, hf] at hy
    cases hy
  | some x =>
    have hbx := hb x (find_mem hf).1
    have hg : getL L name = x := by unfold getL; rw [hf]; rfl
    have e1 : d1 = ⟨withL L (name, x.2.1, x.2.1.length), 1, false, 0⟩ := by
      rw [h1]
      unfold stepD
      rw [if_pos (err_sync hn hf)]
      unfold doP
      simp only [hg]
      rfl
    have hf1 : findL (withL L (name, x.2.1, x.2.1.length)) name = some (name, x.2.1, x.2.1.length) := find_with hr (name, x.2.1, x.2.1.length)
    have hg1 : getL (withL L (name, x.2.1, x.2.1.length)) name = (name, x.2.1, x.2.1.length) := by unfold getL; rw [hf1]; rfl
    have ea : errP d1 name (.app bs) = 0 := by rw [e1]; exact err_app hn hf1 hbx
    have hr1 : Rise (withL L (name, x.2.1, x.2.1.length)) := hr.with _
    have e2 : d2.l = withL (withL L (name, x.2.1, x.2.1.length)) (name, x.2.1 ++ bs, x.2.1.length) := by
      rw [h2]
      unfold stepD
      rw [if_pos ea, e1]
      unfold doP
      simp only [hg1]
    have hf2 : findL d2.l name = some (name, x.2.1 ++ bs, x.2.1.length) := by rw [e2]; exact find_with hr1 (name, x.2.1 ++ bs, x.2.1.length)
    have hr2 : Rise d2.l := by rw [e2]; exact hr1.with _
    obtain ⟨i, hc⟩ := find_crash hr2 ks hf2
    have hle := moreN_le ks i (x.2.1 ++ bs).length x.2.1.length (by rw [List.length_append]; omega)
    have hlen : (x.2.1 ++ bs).length = x.2.1.length + bs.length := List.length_append
    have hb1 : readB d1.l name = x.2.1 := by rw [e1]; exact readB_some (x := (name, x.2.1, x.2.1.length)) hn hf1
    have hb2 : readB (crashL ks d2.l) name = (x.2.1 ++ bs).take (x.2.1.length + moreN ks i (x.2.1 ++ bs).length x.2.1.length) := readB_some (x := crash1 ks i (name, x.2.1 ++ bs, x.2.1.length)) hn hc
    refine ⟨ea, readE_some hn hc, ?_, ?_, ?_⟩
    · rw [hb1, hb2, List.length_take]; omega
    · rw [hb1, hb2, List.length_take]; omega
    · rw [hb1, hb2, List.take_take, Nat.min_eq_left (by omega), List.take_append_of_le_length (Nat.le_refl _), List.take_length]
theorem sync_len (d : DS) (name : ByteArray) : (stepD d name .sync).l.length ≤ d.l.length := by
  unfold stepD
  split
  · rename_i h
    have hr := err_ref h
    unfold refP at hr
    cases hf : findL d.l name with
    | none => rw [hf] at hr; simp only [Cmd.th, Option.isNone_none, Bool.and_self, if_true] at hr; split at hr <;> cases hr
    | some x =>
      show (withL d.l _).length ≤ _
      rw [(with_perm _ _).length_eq, List.length_cons]
      show (dropL d.l name).length < _
      unfold dropL
      obtain ⟨hm, hk⟩ := find_mem hf
      exact List.length_filter_lt_length_iff_exists.2 ⟨x, hm, by simp [hk]⟩
  · exact Nat.le_refl _
/-- a step of a disk that is not to be halted -/
theorem step_free {d : DS} (he : d.en = false) (hl : d.lf = 0) (name : ByteArray) (c : Cmd) : (stepD d name c).en = false ∧ (stepD d name c).lf = 0 ∧ d.st ≤ (stepD d name c).st ∧ (stepD d name c).st ≤ d.st + 1 := by
  unfold stepD
  split
  · refine ⟨he, ?_, ?_, ?_⟩
    · show (if d.en then d.lf - 1 else d.lf) = 0
      rw [he, hl]
      rfl
    · show d.st ≤ d.st + 1
      omega
    · exact Int.le_refl _
  · exact ⟨he, hl, Int.le_refl _, by omega⟩
end Go.Proofs.Ytaaaljpnhfmbpaa
