/- The walk of the law CacheBounds. No condition. -/
import Derived.Test.YthfgblchlgodmaaCaJ
namespace Go.Proofs.Ythfgblchlgodmaa
open Go.RowKit
set_option linter.unusedVariables false

theorem Reads.const (w : World) (l : List UInt8) (t : TypeId) (fr : Nat × Nat) : Reads (w.alloc (.cells (bvs l).toArray t fr)) (w.heap.size + 1) 1 (some ⟨w.heap.size, 0, none⟩) l.length (bvs l) :=
  ⟨by simp [bvs_length], fun hn => ⟨w.heap.size, 0, rfl, by omega, fun j u hu => by
    rw [World.cell?_alloc_mark]
    simpa using hu⟩⟩
theorem nm_cells {t : Nat} (ht : t < 65535) : (bvs (nm t)).toArray = #[.int .u8 (97 + (t : Int) % 26), .int .u8 (97 + (t : Int) / 26 % 26), .int .u8 (97 + (t : Int) / 676 % 26), .int .u8 (97 + (t : Int) / 17576)] := by
  have h0 : ((UInt8.ofNat (97 + t % 26)).toNat : Int) = 97 + (t : Int) % 26 := by rw [ofNat_nat (by omega)]; omega
  have h1 : ((UInt8.ofNat (97 + t / 26 % 26)).toNat : Int) = 97 + (t : Int) / 26 % 26 := by rw [ofNat_nat (by omega)]; omega
  have h2 : ((UInt8.ofNat (97 + t / 676 % 26)).toNat : Int) = 97 + (t : Int) / 676 % 26 := by rw [ofNat_nat (by omega)]; omega
  have h3 : ((UInt8.ofNat (97 + t / 17576)).toNat : Int) = 97 + (t : Int) / 17576 := by rw [ofNat_nat (by omega)]; omega
  rw [← h0, ← h1, ← h2, ← h3]
  rfl
theorem nm_str (t : Nat) : (⟨(nm t).toArray⟩ : ByteArray) ++ ⟨#[95]⟩ = nmS t := by
  rw [show (⟨#[95]⟩ : ByteArray) = ⟨([95] : List UInt8).toArray⟩ from rfl, ByteArray.mk_append_mk]
  rfl
theorem cputs_long {g r1 r2 : Nat} {ss ns : List KV} (script : ByteArray) (w : World) (h : CQ w g r1 r2 ss ns) (hs : 1048576 < script.size) :
    Calls Try.prog 23 #[.pointer (some ⟨g, 0, none⟩), .string script] w fun e w' => e = .returned (.tuple #[.string ⟨#[]⟩, .int .i64 3]) ∧ w = w' := by
  have hsI : (1048576 : Int) < (script.size : Int) := by omega
  have H1 := hide (cnone_any w h)
  clear h
  go_enter Try.func23, Try.ntmps23
  go_wp2_with (first
    | (go_at_call 35; refine H1.out.mono ?_; rintro e w2 ⟨rfl, rfl⟩)
    | fail)
  go_ret2
  exact ⟨rfl, rfl⟩

set_option maxHeartbeats 8000000 in
set_option maxRecDepth 100000 in
theorem cacheBounds_any (w : World) : Calls Try.prog 6 #[] w fun e w' => e = .returned (.bool true) ∧ Below w.heap.size w w' := by
  obtain ⟨l, h11, h12⟩ := bounds_bytes
  have H11 := hide h11
  have H12 := hide h12
  clear h11
  generalize hS1 : (⟨l.toArray⟩ : ByteArray) = S1 at *
  have HS1 := hide hS1
  have HS2 := hide (cut_size h12)
  have K1 := hide (load_long (s := S1) (by omega))
  have K2 := hide (load_fit (s := S1.extract 0 1048576) (by rw [HS2.out]; exact Nat.le_refl _))
  have T1 := hide True.intro
  have T2 := hide True.intro
  clear h12 hS1
  go_enter Try.func6, Try.ntmps6
  go_wp2_with (first
    | (go_at_call 11; go_must (refine (cnew_any w).mono ?_; rintro e w1 ⟨g, r1, r2, rfl, hc1, hg, hr1, hr2, hb1⟩))
    | (refine wpList_make (by rfl) (.const (.int .i64 1048577)) (.const (.int .i64 1048577)) 52 (by rfl) u8_ok rfl Try.underlying52 (n := 1048577) (c := 1048577) (by rfl) (by rfl) (Nat.le_refl _) (by decide) (by decide) ?_
       intro w2 hb2 hs2 hk2 ho2
       have ho2 := ho2 w1.heap.size (Nat.le_refl _)
       rw [H11.out] at ho2
       have hcv := run_bytes_str (P := Try.prog) 52 9 5 (by kernel_rfl) (by kernel_rfl) (by kernel_rfl) (Reads.of_own ho2) 1048577
       rw [HS1.out] at hcv
       have hsz := H12.out
       have hbw2 := hb1.trans (hb2.mono hb1.size)
       have hc2 := hc1.below hb2
       clear hk2 hs2 H11 ho2 hc1)
    | (go_at_call 23; go_must (refine (cputs_long S1 w2 hc2 (by rw [H12.out]; decide)).mono ?_; rintro e w2' ⟨rfl, rfl⟩))
    | (go_at_call 24
       have _t := T1
       go_must (
       refine (cload_any (B := w.heap.size) sA S1 w2 hc2 (by decide) (by decide) hr2 hbw2.size).mono ?_
       rw [show ([] : List KV).length + ([] : List KV).length = 0 from rfl, K1.out.1, K1.out.2]
       rintro e w3 ⟨rfl, hc3, hb3⟩
       have hbw3 := hbw2.trans hb3
       clear T1 _t hc2 hcv))
    | (go_at_call 24
       go_must (
       refine (cload_any (B := w.heap.size) sA (S1.extract 0 1048576) w3 hc3 (by decide) (by decide) hr2 hbw3.size).mono ?_
       rw [show ([] : List KV).length + ([] : List KV).length = 0 from rfl, K2.out.1, K2.out.2]
       rintro e w4 ⟨rfl, hc4, hb4⟩
       have hbw4 := hbw3.trans hb4
       clear hc3))
    | fail)
  clear K1 K2 HS2
  generalize S1.extract 0 1048576 = S2 at *
  go_loopw [7, 8] (fun i x wr => ∃ t : Nat, i = .int .i64 t ∧ t ≤ 65535 ∧ CQ wr g r1 r2 [] (enN (.string S2) t) ∧ Below w.heap.size w wr) (fun i _ _ => 65535 - (intOf i).toNat)
  case atStart => exact ⟨0, rfl, by omega, hc4, hbw4⟩
  case round =>
    obtain ⟨t, rfl, ht, hc5, hb5⟩ := hrel
    by_cases htn : t < 65535
    · have htI : (t : Int) < 65535 := by omega
      have hwt : IntKind.i64.wrap ((t : Int) + 1) = (t : Int) + 1 := IntWalk.i64_in _ (by omega)
      have hcells := nm_cells htn
      have hrc := Reads.const wr (nm t) 5 (0, 0)
      rw [hcells] at hrc
      have hcv := run_bytes_str (P := Try.prog) 52 9 5 Try.underlying52 Try.underlying5 Try.underlying9 hrc 4
      have hN := nm_str t
      have hNz : (⟨(nm t).toArray⟩ : ByteArray).size = 4 := rfl
      have HLD := hide (load_nm (S := .string S2) htn)
      generalize (⟨(nm t).toArray⟩ : ByteArray) = N4 at *
      have hlen : (nm t).length = 4 := rfl
      rw [hlen] at hcv
      clear hcells hrc hlen
      go_wp2_with (first
        | (go_at_call 24
           go_must (
           have hb6 : Below w.heap.size wr (wr.alloc (.cells #[.int .u8 (97 + (t : Int) % 26), .int .u8 (97 + (t : Int) / 26 % 26), .int .u8 (97 + (t : Int) / 676 % 26), .int .u8 (97 + (t : Int) / 17576)] 5)) := (Below.refl _ wr).alloc hb5.size _
           have hc6 := hc5.below ((Below.refl wr.heap.size wr).alloc (Nat.le_refl _) (.cells #[.int .u8 (97 + (t : Int) % 26), .int .u8 (97 + (t : Int) / 26 % 26), .int .u8 (97 + (t : Int) / 676 % 26), .int .u8 (97 + (t : Int) / 17576)] 5))
           generalize wr.alloc (.cells #[.int .u8 (97 + (t : Int) % 26), .int .u8 (97 + (t : Int) / 26 % 26), .int .u8 (97 + (t : Int) / 676 % 26), .int .u8 (97 + (t : Int) / 17576)] 5) = w6 at *
           have hbw6 := hb5.trans hb6
           refine (cload_any (B := w.heap.size) (nmS t) sX w6 hc6 (by decide) (by rw [enN_length]; omega) hr2 hbw6.size).mono ?_
           rw [enN_length, show ([] : List KV).length + (t + 1) = t + 1 from Nat.zero_add _, HLD.out.1, HLD.out.2]
           rintro e w7 ⟨rfl, hc7, hb7⟩
           have hbw7 := hbw6.trans hb7))
        | (go_at_call 25; refine (num_any 0 _).mono ?_; rintro e w2' ⟨rfl, rfl⟩)
        | fail)
      go_roundw
      case rel => exact ⟨t + 1, by simp, by omega, hc7, hbw7⟩
      case measure => simp [intOf]; omega
    · have htI : ¬ (t : Int) < 65535 := by omega
      obtain rfl : t = 65535 := by omega
      have L1 := hide (load_b (S := .string S2))
      have L2 := hide (load_a (S := .string S2))
      have L3 := hide (unload_a (S := .string sY))
      have L4 := hide put_full
      have L5 := hide put_last
      have L6 := hide reN_length
      have T3 := hide True.intro
      have T4 := hide True.intro
      have hel := hide (enN_length (.string S2) 65535)
      have hel2 := hide (enN_length (.string sY) 65535)
      generalize reN = R at *
      generalize hE1 : enN (.string S2) 65535 = E1 at *
      generalize hE2 : enN (.string sY) 65535 = E2 at *
      clear hE1 hE2 hc4 hbw4
      go_wp2_with (first
        | (go_at_call_of 23 (Value.pointer none); refine (cput_nil _ _).mono ?_; rintro e w2' ⟨rfl, rfl⟩)
        | (go_at_call 23
           have _t := T2
           go_must (
           refine (cputs_any (B := w.heap.size) sX wr hc5 (by decide) (by rw [hel.out]; decide) (by decide) hr1 hb5.size).mono ?_
           rw [show ([] : List KV).length + E1.length = 65536 from by rw [hel.out]; rfl, L4.out.1, L4.out.2, show putR 3 (digS sX) = .tuple #[.string ⟨#[]⟩, .int .i64 3] from rfl]
           rintro e w8 ⟨rfl, hc8, hb8⟩
           have hbw8 := hb5.trans hb8
           clear T2 _t hc5))
        | (go_at_call_of 24 (Value.pointer none); refine (cload_nil _ _ _).mono ?_; rintro e w2' ⟨rfl, rfl⟩)
        | (go_at_call 24
           have _t := T3
           go_must (
           refine (cload_any (B := w.heap.size) sB sX w8 hc8 (by decide) (by rw [hel.out]; decide) hr2 hbw8.size).mono ?_
           rw [show ([] : List KV).length + E1.length = 65536 from by rw [hel.out]; rfl, L1.out.1, L1.out.2]
           rintro e w9 ⟨rfl, hc9, hb9⟩
           have hbw9 := hbw8.trans hb9
           clear T3 _t hc8))
        | (go_at_call 24
           go_must (
           refine (cload_any (B := w.heap.size) sA sY w9 hc9 (by decide) (by rw [hel.out]; decide) hr2 hbw9.size).mono ?_
           rw [show ([] : List KV).length + E1.length = 65536 from by rw [hel.out]; rfl, L2.out.1, L2.out.2]
           rintro e w10 ⟨rfl, hc10, hb10⟩
           have hbw10 := hbw9.trans hb10
           clear hc9))
        | (go_at_call_of 26 (Value.pointer none); refine (cunload_nil _ _).mono ?_; rintro e w2' ⟨rfl, rfl⟩)
        | (go_at_call 26
           go_must (
           refine (cunload_any (B := w.heap.size) sA w10 hc10 hr2 hbw10.size).mono ?_
           rw [L3.out.1, L3.out.2]
           rintro e w11 ⟨rfl, hc11, hb11⟩
           have hbw11 := hbw10.trans hb11
           clear hc10))
        | (go_at_call 23
           go_must (
           refine (cputs_any (B := w.heap.size) sX w11 hc11 (by decide) (by rw [L6.out]; decide) (by decide) hr1 hbw11.size).mono ?_
           rw [show ([] : List KV).length + R.length = 65535 from by rw [L6.out]; rfl, L5.out.1, L5.out.2, putR_zero]
           rintro e w12 ⟨rfl, hc12, hb12⟩
           have hbw12 := hbw11.trans hb12
           have HLN := hide (clen_any w12 hc12 (by decide) (by rw [L6.out]; decide))
           rw [show [(digS sX, Value.string sX)].length + R.length = 65536 from by rw [L6.out]; rfl] at HLN
           clear hc11))
        | (go_at_call 13; refine (cget_nil _ _).mono ?_; rintro e w2' ⟨rfl, rfl⟩)
        | (go_at_call 27; refine (cflush_nil _).mono ?_; rintro e w2' ⟨rfl, rfl⟩)
        | (go_at_call_of 28 (Value.pointer none); refine (clen_nil _).mono ?_; rintro e w2' ⟨rfl, rfl⟩)
        | (go_at_call 28
           go_must (
           refine HLN.out.mono ?_
           rintro e w13 ⟨rfl, m13, hw13⟩
           have hc13 : CQ w13 g r1 r2 [(digS sX, .string sX)] R := by rw [hw13]; exact hc12.drewN m13
           have hbw13 : Below w.heap.size w w13 := by rw [hw13]; exact below_drewN hbw12 _
           clear hw13 hc12 HLN))
        | (go_at_call 17; refine (ccopy_nil _).mono ?_; rintro e w2' ⟨rfl, rfl⟩)
        | (go_at_call 29; refine (cnames_nil _).mono ?_; rintro e w2' ⟨rfl, rfl⟩)
        | (go_at_call 30
           go_must (
           refine (lawAll_nil w13).mono ?_
           rintro e w14 ⟨rfl, hb14⟩
           have hc14 := hc13.below hb14
           have hbw14 := hbw13.trans (hb14.mono hbw13.size)
           have HSM := hide (csame_nil2 w14 hc14)))
        | (go_at_call_of 19 g; refine HSM.out.mono ?_; rintro e w2' ⟨rfl, rfl⟩)
        | (go_at_call 19; refine (csame_nil _).mono ?_; rintro e w2' ⟨rfl, rfl⟩)
        | (go_at_call 25; refine (num_any 0 _).mono ?_; rintro e w2' ⟨rfl, rfl⟩)
        | (go_at_call 25; refine (num_any 3 _).mono ?_; rintro e w2' ⟨rfl, rfl⟩)
        | (go_at_call 25; refine (num_any 1 _).mono ?_; rintro e w2' ⟨rfl, rfl⟩)
        | (go_at_call 9; refine (works_any _).mono ?_; rintro e w16 ⟨rfl, hb16⟩)
        | fail)
      go_ret
      exact ⟨ret_bool rfl, hbw14.trans (hb16.mono hbw14.size)⟩
end Go.Proofs.Ythfgblchlgodmaa
