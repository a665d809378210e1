/- The walk of the law DiskBounds. No condition. -/
import Derived.Test.YtaaaljpnhfmbpaaDkU
import Derived.Test.YtaaaljpnhfmbpaaDkO
import Derived.Test.YtaaaljpnhfmbpaaDkN
import Derived.Deep.RegionWith
namespace Go.Proofs.Ytaaaljpnhfmbpaa
open Go.RowKit Go.Shelf
set_option linter.unusedVariables false

theorem din_small {B : Nat} {w : World} {l : FL} {st : Int} {name : ByteArray} (h : B ≤ w.heap.size) (hs : name.size ≤ 140737488351232) (h0 : 0 ≤ st) (h1 : st ≤ 1000000000) : DIn B w ⟨l, st, false, 0⟩ name :=
  ⟨h, hs, h0, h1, Int.le_refl 0, (by decide : (0 : Int) ≤ 9223372036854775807)⟩
theorem many_bytes : ∃ l : List UInt8, List.replicate 1048577 (Value.int .u8 0) = bvs l ∧ l.length = 1048577 := by
  refine ⟨List.replicate 1048577 0, ?_, List.length_replicate⟩
  unfold bvs; rw [List.map_replicate]; rfl
theorem first_app {bs : List UInt8} {name : ByteArray} (hx : nameDS name = true) (h : bs.length ≤ 1048576) : errP ⟨[], 0, false, 0⟩ name (.app bs) = 0 ∧ stepD ⟨[], 0, false, 0⟩ name (.app bs) = ⟨[(name, bs, 0)], 1, false, 0⟩ := by
  have hb : badL [name] = false := by unfold badL; simp [hx]
  have e : errP ⟨[], 0, false, 0⟩ name (.app bs) = 0 := by
    unfold errP refP ownP getL findL
    simp [Cmd.names, Cmd.th, hb]
    omega
  refine ⟨e, ?_⟩
  unfold stepD
  rw [if_pos e]
  unfold doP getL findL withL dropL
  simp
theorem full_app {bs cs : List UInt8} {name : ByteArray} {st : Int} (hx : nameDS name = true) (h : 1048576 < bs.length + cs.length) : errP ⟨[(name, bs, 0)], st, false, 0⟩ name (.app cs) = 3 ∧ stepD ⟨[(name, bs, 0)], st, false, 0⟩ name (.app cs) = ⟨[(name, bs, 0)], st, false, 0⟩ := by
  have hb : badL [name] = false := by unfold badL; simp [hx]
  have e : errP ⟨[(name, bs, 0)], st, false, 0⟩ name (.app cs) = 3 := by
    unfold errP refP ownP getL findL
    simp [Cmd.names, Cmd.th, hb, h]
  refine ⟨e, ?_⟩
  unfold stepD
  rw [if_neg (by rw [e]; decide)]
theorem other_app {bs cs : List UInt8} {name b : ByteArray} {st : Int} (hx : nameDS b = true) (hne : ¬ name = b) (h : 1048576 < cs.length) : errP ⟨[(name, bs, 0)], st, false, 0⟩ b (.app cs) = 3 ∧ stepD ⟨[(name, bs, 0)], st, false, 0⟩ b (.app cs) = ⟨[(name, bs, 0)], st, false, 0⟩ := by
  have hb : badL [b] = false := by unfold badL; simp [hx]
  have e : errP ⟨[(name, bs, 0)], st, false, 0⟩ b (.app cs) = 3 := by
    unfold errP refP ownP getL findL
    simp [Cmd.names, Cmd.th, hb, hne, h]
  refine ⟨e, ?_⟩
  unfold stepD
  rw [if_neg (by rw [e]; decide)]
theorem long_from {S : ByteArray} (h : S.size = 1048577) : chkF [⟨⟨#[97]⟩, S, 0⟩] = 3 := by
  have hx : nameDS ⟨#[97]⟩ = true := by kernel_rfl
  have hl : leS ⟨#[97]⟩ ⟨#[]⟩ = false := by kernel_rfl
  have hb : badA ⟨#[]⟩ ⟨⟨#[97]⟩, S, 0⟩ = false := by
    unfold badA
    rw [hx, hl]
    simp
  unfold chkF chk
  rw [hb, if_neg (by decide)]
  unfold chk
  rw [h]
  rfl
theorem fit_one {bs : List UInt8} (h : bs.length ≤ 1048576) : Fit [(⟨#[97]⟩, bs, 0)] :=
  ⟨by simp, fun x hx => by rw [List.mem_singleton.1 hx]; show (1 : Nat) ≤ maxLen; decide, fun x hx => by rw [List.mem_singleton.1 hx]; exact h⟩

set_option maxHeartbeats 8000000 in
set_option maxRecDepth 100000 in
theorem diskBounds_any (w : World) : Calls Try.prog 9 #[] w fun e w' => e = .returned (.bool true) ∧ Below w.heap.size w w' := by
  obtain ⟨L, h1, h2⟩ := many_bytes
  have H1 := hide h1
  have H2 := hide h2
  have hta : (L.take 1048576).length = 1048576 := by rw [List.length_take, h2]; rfl
  have ht1 : (L.take 1).length = 1 := by rw [List.length_take, h2]; rfl
  have hS : (⟨L.toArray⟩ : ByteArray).size = 1048577 := by
    show L.toArray.size = 1048577
    rw [List.size_toArray, h2]
  have hxa : nameDS ⟨#[97]⟩ = true := by kernel_rfl
  have hxb : nameDS ⟨#[98]⟩ = true := by kernel_rfl
  have hab : ¬ (⟨#[97]⟩ : ByteArray) = ⟨#[98]⟩ := by decide
  have F1 := hide (first_app (bs := L.take 1048576) hxa (by rw [hta]; exact Nat.le_refl _))
  have F2 := hide (full_app (bs := L.take 1048576) (cs := L.take 1) (st := 1) hxa (by rw [hta, ht1]; decide))
  have F3 := hide (other_app (bs := L.take 1048576) (cs := L) (st := 1) hxb hab (by rw [h2]; decide))
  have F4 := hide (long_from hS)
  have F5 := hide (fit_one (bs := L.take 1048576) (by rw [hta]; exact Nat.le_refl _))
  have HTA := hide hta
  have HS := hide hS
  have heq := run_eql_none
  clear h1 h2 hta ht1 hS hxa hxb hab
  generalize hS1 : (⟨L.toArray⟩ : ByteArray) = S1 at *
  have HS1 := hide hS1
  clear hS1
  go_enter Try.func9, Try.ntmps9
  go_upto_region 2 with (first
    | (refine wpList_make rfl (.const (.int .i64 1048577)) (.const (.int .i64 1048577)) 35 rfl u8_ok rfl Try.underlying35 (n := 1048577) (c := 1048577) rfl rfl (Nat.le_refl _) (by decide) (by decide) ?_
       intro w1 hb1 hs1 hk1 ho1
       have ho1 := ho1 w.heap.size (Nat.le_refl _)
       rw [H1.out] at ho1
       have hR1 := Reads.of_own ho1
       clear hk1 hs1 H1 ho1)
    | fail)
  go_upto_region 3 with (first
    | (go_at_call 31; go_must (refine (new_s w1).mono ?_; rintro e w2 ⟨g, r, rfl, hd2, hb2⟩))
    | fail)
  have hl12 := hb1.size
  have hR2 := hR1.below hb2
  have hbw2 := hb1.trans (hb2.mono hl12)
  have hz2 : w1.heap.size ≤ w2.heap.size := hb2.size
  clear hR1 hb2
  go_upto_region 4 with (first
    | (go_at_call 23
       go_must (
       refine (append_op (bs := L.take 1048576) w2 hd2 (din_small hz2 (by decide) (by decide) (by decide)) ((hR2.more hz2).front (by decide)) (by decide) (fun x hx => by cases hx)).mono ?_
       rintro e w3 ⟨he, hd3, hb3⟩
       rw [F1.out.2] at hd3
       rw [F1.out.1] at he
       subst he))
    | fail)
  have hR3 := hR2.below hb3
  have hz3 := Nat.le_trans hz2 hb3.size
  have hbw3 := hbw2.trans (hb3.mono hl12)
  clear hR2 hb3 hd2 hbw2
  go_upto_region 5 with (first
    | (go_at_call 23
       go_must (
       refine (append_op (bs := L.take 1) w3 hd3 (din_small hz3 (by decide) (by decide) (by decide)) ((hR3.more hz3).front (by decide)) (by decide) (fun x hx => by rw [List.mem_singleton.1 hx]; rw [HTA.out]; exact Nat.le_refl _)).mono ?_
       rintro e w4 ⟨he, hd4, hb4⟩
       rw [F2.out.2] at hd4
       rw [F2.out.1] at he
       subst he))
    | fail)
  have hR4 := hR3.below hb4
  have hz4 := Nat.le_trans hz3 hb4.size
  have hbw4 := hbw3.trans (hb4.mono hl12)
  clear hR3 hb4 hd3 hbw3
  go_upto_region 6 with (first
    | (go_at_call 23
       go_must (
       refine (append_op (bs := L) w4 hd4 (din_small hz4 (by decide) (by decide) (by decide)) (hR4.more hz4) (by decide) (fun x hx => by rw [List.mem_singleton.1 hx]; rw [HTA.out]; exact Nat.le_refl _)).mono ?_
       rintro e w5 ⟨he, hd5, hb5⟩
       rw [F3.out.2] at hd5
       rw [F3.out.1] at he
       subst he))
    | fail)
  have hR5 := hR4.below hb5
  have hz5 := Nat.le_trans hz4 hb5.size
  have hbw5 := hbw4.trans (hb5.mono hl12)
  clear hR4 hb5 hd4 hbw4
  have hcv := run_bytes_str (P := Try.prog) 35 9 5 (by kernel_rfl) (by kernel_rfl) (by kernel_rfl) hR5 1048577
  rw [HS1.out] at hcv
  clear hR5
  go_upto_region 8 with (first
    | (go_at_call 14
       go_must (
       have hk6 := Blk.new w5 27 #[.string ⟨#[97]⟩, .string S1, .int .i64 0]
       have hb6 : Below w5.heap.size w5 (w5.alloc (.cells #[.string ⟨#[97]⟩, .string S1, .int .i64 0] 27)) := (Below.refl _ w5).alloc (Nat.le_refl _) _
       generalize w5.alloc (.cells #[.string ⟨#[97]⟩, .string S1, .int .i64 0] 27) = w6 at *
       refine (from_any (l := [⟨⟨#[97]⟩, S1, 0⟩]) w6 ⟨rfl, fun _ => ⟨_, 0, rfl, hk6.lt, fun j u hu => by rw [Nat.zero_add, hk6.cell]; simpa [afs] using hu⟩⟩ (by decide) (fun x hx => by rw [List.mem_singleton.1 hx]; exact ⟨(by decide : (⟨#[97]⟩ : ByteArray).size ≤ 140737488351232), by show S1.size ≤ _; rw [HS.out]; decide⟩)).mono ?_
       rintro e w7 ⟨hor, hb7⟩
       have he : e = .returned (.tuple #[.pointer none, .int .i64 3]) := by
         rcases hor with ⟨_, he⟩ | ⟨h0, _⟩
         · rw [he, F4.out]
         · rw [F4.out] at h0; cases h0
       subst he
       have hb57 := hb6.trans (hb7.mono hb6.size)
       clear hor hk6 hb6 hb7))
    | fail)
  have hd7 := hd5.below hb57
  have hz7 := Nat.le_trans hz5 hb57.size
  have hbw7 := hbw5.trans (hb57.mono (Nat.le_trans hl12 hz5))
  have hF := hide (files_s w7 hd7 F5.out)
  clear hd5 hb57 hbw5 hcv
  go_wp2_with (first
    | (go_at_call 18; refine (read_nil _ _).mono ?_; rintro e w8 ⟨rfl, rfl⟩)
    | (go_at_call 29; refine (halt_nil _ _).mono ?_; rintro e w8 ⟨rfl, rfl⟩)
    | (go_at_call 16; go_in)
    | (go_at_call_of 20 (Value.pointer none)
       go_must (refine (files_nil _).mono ?_; rintro e w20 ⟨rfl, hb20⟩))
    | (go_at_call 20
       go_must (
       refine hF.out.mono ?_
       rintro e w10 ⟨v, rfl, hown, hb10⟩
       obtain ⟨G, cap, rfl, _, _⟩ := hown.form (by simp)))
    | (go_at_call 23; go_must (refine (append_nil _ _).mono ?_; rintro e w11 ⟨rfl, hb11⟩))
    | (go_at_call 32; go_must (refine (cut_nil _ _ _).mono ?_; rintro e w12 ⟨rfl, hb12⟩))
    | (go_at_call 22; go_must (refine (sync_nil _ _).mono ?_; rintro e w13 ⟨rfl, hb13⟩))
    | (go_at_call 33; go_must (refine (rename_nil _ _ _).mono ?_; rintro e w14 ⟨rfl, hb14⟩))
    | (go_at_call 34; go_must (refine (remove_nil _ _).mono ?_; rintro e w15 ⟨rfl, hb15⟩))
    | (go_at_call 24; go_must (refine (crash_nil _).mono ?_; rintro e w16 ⟨rfl, hb16⟩))
    | (go_at_call 21; go_must (refine (steps_nil _).mono ?_; rintro e w17 ⟨rfl, rfl⟩))
    | (go_at_call 12; go_must (refine (works_any _).mono ?_; rintro e w18 ⟨rfl, hb18⟩))
    | fail)
  go_ret
  have k10 := hbw7.trans (hb10.mono hbw7.size)
  have k11 := k10.trans (hb11.mono k10.size)
  have k12 := k11.trans (hb12.mono k11.size)
  have k13 := k12.trans (hb13.mono k12.size)
  have k14 := k13.trans (hb14.mono k13.size)
  have k15 := k14.trans (hb15.mono k14.size)
  have k16 := k15.trans (hb16.mono k15.size)
  have k20 := k16.trans (hb20.mono k16.size)
  have k18 := k20.trans (hb18.mono k20.size)
  exact ⟨ret_bool (by kernel_rfl), k18⟩
end Go.Proofs.Ytaaaljpnhfmbpaa
