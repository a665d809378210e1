/- The walk of works (the laws' own check of known sums and digests). -/
import Derived.Test.YtiheldbiaamabaaDigest
import Derived.Test.YtiheldbiaamabaaSumsB
import Derived.Test.YtiheldbiaamabaaRefA
import Derived.Lib.SmallJoins
namespace Go.Proofs.Ytiheldbiaamabaa
open Go.RowKit
set_option linter.unusedVariables false
theorem known_crc : crcUpd 0 [49, 50, 51, 52, 53, 54, 55, 56, 57] = 3421780262 := by decide +kernel
theorem known_of : of4 (le4 3421780262) = 3421780262 := by decide +kernel
def abcText : List UInt8 := [97, 57, 57, 57, 51, 101, 51, 54, 52, 55, 48, 54, 56, 49, 54, 97, 98, 97, 51, 101, 50, 53, 55, 49, 55, 56, 53, 48, 99, 50, 54, 99, 57, 99, 100, 48, 100, 56, 57, 100]
theorem known_abc : textOf (digSt [97, 98, 99]) = abcText := by decide +kernel
theorem known_nil : isDig (textOf (digSt [])) = true := by decide +kernel

theorem Reads.const (w : World) (l : List UInt8) (t : TypeId) (fr : Nat × Nat) : Reads (w.alloc (.cells (bvs l).toArray t fr)) (w.heap.size + 1) 1 (some ⟨w.heap.size, 0, none⟩) l.length (bvs l) :=
  ⟨by simp [bvs_length], fun hn => ⟨w.heap.size, 0, rfl, by omega, fun j u hu => by
    rw [World.cell?_alloc_mark]
    simpa using hu⟩⟩

theorem abc_str : (⟨(textOf (digSt [97, 98, 99])).toArray⟩ : ByteArray) = { data := #[97, 57, 57, 57, 51, 101, 51, 54, 52, 55, 48, 54, 56, 49, 54, 97, 98, 97, 51, 101, 50, 53, 55, 49, 55, 56, 53, 48, 99, 50, 54, 99, 57, 99, 100, 48, 100, 56, 57, 100] } := by rw [known_abc]; rfl
theorem nil_size : (⟨(textOf (digSt [])).toArray⟩ : ByteArray).size = 40 := by simp [ByteArray.size, textOf]

set_option maxHeartbeats 1000000 in
theorem works_any (w : World) : Calls Try.prog 12 #[] w fun e w' => e = .returned (.bool true) ∧ Below w.heap.size w w' := by
  have hv1 := fun W : World => Lib.run_convert_bytes_const (P := Try.prog) W 22 5 (bvs [49, 50, 51, 52, 53, 54, 55, 56, 57]).toArray 9 9 Try.underlying22 Try.underlying5
  have hv2 := fun W : World => Lib.run_convert_bytes_const (P := Try.prog) W 22 5 (bvs [97, 98, 99]).toArray 3 3 Try.underlying22 Try.underlying5
  have hb9 : (bvs [49, 50, 51, 52, 53, 54, 55, 56, 57]).toArray = #[.int .u8 49, .int .u8 50, .int .u8 51, .int .u8 52, .int .u8 53, .int .u8 54, .int .u8 55, .int .u8 56, .int .u8 57] := rfl
  have hb3 : (bvs [97, 98, 99]).toArray = #[.int .u8 97, .int .u8 98, .int .u8 99] := rfl
  rw [hb9] at hv1
  rw [hb3] at hv2
  have HB9 := hide hb9
  have HB3 := hide hb3
  clear hb9 hb3
  go_enter Try.func12, Try.ntmps12
  go_upto_region 2 with (fail)
  have hr9 := Reads.const w [49, 50, 51, 52, 53, 54, 55, 56, 57] 5 (9, 10)
  have hbw : Below w.heap.size w (w.alloc (.cells (bvs [49, 50, 51, 52, 53, 54, 55, 56, 57]).toArray 5 (9, 10))) := (Below.refl _ w).alloc (Nat.le_refl _) _
  have hsw : (w.alloc (.cells (bvs [49, 50, 51, 52, 53, 54, 55, 56, 57]).toArray 5 (9, 10))).heap.size = w.heap.size + 1 := by simp
  rw [HB9.out] at hr9 hbw hsw
  generalize w.alloc (.cells #[.int .u8 49, .int .u8 50, .int .u8 51, .int .u8 52, .int .u8 53, .int .u8 54, .int .u8 55, .int .u8 56, .int .u8 57] 5 (9, 10)) = W1 at *
  have hr9' : Reads W1 W1.heap.size 1 (some ⟨w.heap.size, 0, none⟩) 9 (bvs [49, 50, 51, 52, 53, 54, 55, 56, 57]) := by rw [hsw]; exact hr9
  go_wp2_with (first
    | (go_at_call 21; refine (bytes_any 3421780262 (by decide) _).mono ?_; rintro e w2 ⟨g, rfl, hg, hk2, hb2⟩))
  have hr4 : Reads w2 (g + 1) 1 (some ⟨g, 0, none⟩) 4 (bvs (le4 3421780262)) := by
    have := hk2.reads (n := g + 1) (k := 0) (m := 4) (by omega) (by simp [bvs_length, le4])
    rw [List.drop_zero] at this
    simpa [List.take_of_length_le, bvs_length, le4] using this
  refine (of_any _ 4 _ w2 hr4).mono ?_
  rintro e w2' ⟨rfl, rfl⟩
  rw [known_of]
  have hr92 := (hr9'.below hb2).more hb2.size
  have hbw2 := hbw.trans (hb2.mono hbw.size)
  clear hr9 hr9' hbw hsw hb2 hk2 hr4 hg
  go_wp2_with fail
  refine (crc_any _ 9 9 _ w2 hr92 (by decide)).mono ?_
  rintro e w3 ⟨rfl, hb3⟩
  have hbw3 := hbw2.trans (hb3.mono hbw2.size)
  rw [known_crc]
  clear hr92 hb3 hbw2
  have hz3 := hv2 w3
  have hr3 := Reads.const w3 [97, 98, 99] 5 (3, 4)
  have hbw4 := hbw3.alloc hbw3.size (.cells (bvs [97, 98, 99]).toArray 5 (3, 4))
  have hsw : (w3.alloc (.cells (bvs [97, 98, 99]).toArray 5 (3, 4))).heap.size = w3.heap.size + 1 := by simp
  rw [HB3.out] at hr3 hbw4 hsw
  go_wp2_with (first
    | (go_at_call 20; refine (num_any 0 _).mono ?_; rintro e w4 ⟨rfl, rfl⟩))
  clear hz3 hv1 hv2 HB9
  generalize w3.alloc (.cells #[.int .u8 97, .int .u8 98, .int .u8 99] 5 (3, 4)) = W4 at *
  refine (digest_any _ 3 3 [97, 98, 99] W4 (by rw [hsw]; exact hr3) (by decide)).mono ?_
  rintro e w5 ⟨rfl, hb5⟩
  have hbw5 := hbw4.trans (hb5.mono hbw4.size)
  rw [abc_str]
  clear hr3 hbw3 hb5 hsw hbw4
  go_wp2_with fail
  refine (digest_any none 0 0 [] w5 (Reads.none_ _ _ _ none) (by decide)).mono ?_
  rintro e w6 ⟨rfl, hb6⟩
  have hbw6 := hbw5.trans (hb6.mono hbw5.size)
  have hsn := nil_size
  generalize hds : (⟨(textOf (digSt [])).toArray⟩ : ByteArray) = ds at *
  have hdig : isDig ds.data.toList = true := by rw [← hds]; exact known_nil
  clear hb6 hbw5 hds
  go_wp2_with fail
  refine (is_any ds w6 (by rw [hsn]; decide)).mono ?_
  rintro e w7 ⟨rfl, hb7⟩
  rw [hdig]
  have hbw7 := hbw6.trans (hb7.mono hbw6.size)
  go_wp2_with fail
  go_ret
  exact ⟨ret_bool rfl, hbw7⟩
end Go.Proofs.Ytiheldbiaamabaa
