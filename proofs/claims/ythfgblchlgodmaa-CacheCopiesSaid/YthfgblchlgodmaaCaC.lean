/- The walks of Name (packages cache, taborref21), whole. Conditions: those of each theorem. -/
import Derived.Test.YthfgblchlgodmaaCaB
namespace Go.Proofs.Ythfgblchlgodmaa
open Go.RowKit
set_option linter.unusedVariables false

theorem has_byte_any (pb : Nat) (A : Option Addr) (n c : Nat) (l : List UInt8) (w : World) (hp : Blk w pb 65 partCells) (hr : Reads w w.heap.size 1 A n (bvs l)) (hn : n ≤ 64) :
    Calls Try.prog 34 #[.slice A n c, .func (.func 31) #[] #[.pointer (some ⟨pb, 0, none⟩)]] w fun e w' => e = .returned (.bool (!allB l)) ∧ Below w.heap.size w w' := by
  have H := hide (idx_byte_any pb A n c l w hp hr hn)
  go_enter Try.func34, Try.ntmps34
  go_wp2_with (first
    | (go_at_call 48; go_must (refine H.out.mono ?_; rintro e w2 ⟨⟨k, rfl, hk⟩, hb2⟩; have HK := hide hk; clear hk))
    | fail)
  go_ret
  exact ⟨ret_bool HK.out, hb2⟩

def nameS (s : ByteArray) : Bool := decide (0 < s.size) && decide (s.size ≤ 64) && allB s.data.toList
theorem empty_of_size {s : ByteArray} (h : s.size = 0) : s = ⟨#[]⟩ := by
  cases s with
  | mk d =>
    have : d = #[] := Array.eq_empty_of_size_eq_zero h
    rw [this]
theorem nonempty_facts {s : ByteArray} (h : 0 < s.size) : s.toList.isEmpty = false ∧ ¬ s.toList = [] := by
  rw [ByteArray.toList_eq]
  have hne : s.data.toList ≠ [] := fun e => by
    have : s.data.toList.length = s.size := Array.length_toList
    rw [e] at this
    simp at this
    omega
  exact ⟨by simpa using hne, hne⟩

set_option maxHeartbeats 1000000 in
theorem name_any (s : ByteArray) (w : World) : Calls Try.prog 7 #[.string s] w fun e w' => e = .returned (.bool (nameS s)) ∧ Below w.heap.size w w' := by
  have hp : Blk (w.alloc (.cells partCells 65)) w.heap.size 65 partCells := Blk.new w _ _
  have hb : Below w.heap.size w (w.alloc (.cells partCells 65)) := (Below.refl _ w).alloc (Nat.le_refl _) _
  by_cases h0 : s.size = 0
  · obtain rfl := empty_of_size h0
    clear h0
    have hx : nameS ⟨#[]⟩ = false := by decide
    have HX := hide hx
    clear hx
    go_enter Try.func7, Try.ntmps7
    go_wp2_with fail
    go_ret
    exact ⟨ret_bool HX.out.symm, hb⟩
  · obtain ⟨he1, he2⟩ := nonempty_facts (s := s) (by omega)
    by_cases h64 : s.size ≤ 64
    · have h64I : (s.size : Int) ≤ 64 := by omega
      have HX : Hid (nameS s = allB s.data.toList) := by
        show _ = _
        unfold nameS
        rw [show decide (0 < s.size) = true from decide_eq_true (by omega), show decide (s.size ≤ 64) = true from decide_eq_true h64]
        rfl
      have hconv := fun w => run_conv (P := Try.prog) w 9 52 5 s Try.underlying9 Try.underlying52 Try.underlying5
      have hbc := convW_below s 5 (w.alloc (.cells partCells 65))
      have H := hide (has_byte_any w.heap.size _ s.size (grownCap (w.alloc (.cells partCells 65)) s.size 0 5) s.data.toList _ (hp.below hbc hp.lt) (convW_reads s 5 _) h64)
      go_enter Try.func7, Try.ntmps7
      go_wp2_with (first
        | (go_at_call 34; go_must (refine H.out.mono ?_; rintro e w2 ⟨rfl, hb2⟩))
        | fail)
      go_ret
      refine ⟨ret_bool (by rw [HX.out]), hb.trans ((hbc.trans (hb2.mono hbc.size)).mono hb.size)⟩
    · have h64I : ¬ (s.size : Int) ≤ 64 := by omega
      have HX : Hid (nameS s = false) := by
        show _ = _
        unfold nameS
        rw [show decide (s.size ≤ 64) = false from decide_eq_false h64]
        simp
      go_enter Try.func7, Try.ntmps7
      go_wp2_with fail
      go_ret
      exact ⟨ret_bool HX.out.symm, hb⟩
end Go.Proofs.Ythfgblchlgodmaa
