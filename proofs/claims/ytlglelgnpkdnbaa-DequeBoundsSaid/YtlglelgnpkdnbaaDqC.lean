/- The walks of deque's small methods: none, Len, at, fits, New, and slices.Clone on texts. Conditions: those of each theorem. -/
import Derived.Test.YtlglelgnpkdnbaaRows
import Derived.Test.YtlglelgnpkdnbaaLib
import Derived.Test.YtlglelgnpkdnbaaDqA
import Derived.Deep.QuietTactic
import Derived.BigQuiet
namespace Go.Proofs.Ytlglelgnpkdnbaa
open Go.RowKit
set_option linter.unusedVariables false

/-- texts as cells -/
def svs (l : List ByteArray) : List Value := l.map .string
theorem svs_length (l : List ByteArray) : (svs l).length = l.length := by simp [svs]
theorem svs_append (l m : List ByteArray) : svs (l ++ m) = svs l ++ svs m := by simp [svs]
theorem svs_one (l : List ByteArray) : ∀ u ∈ svs l, u.oneCell' = true := by
  intro u hu
  simp only [svs, List.mem_map] at hu
  obtain ⟨x, _, rfl⟩ := hu
  rfl
theorem svs_at (l : List ByteArray) (j : Nat) : (svs l)[j]? = l[j]?.map .string := by simp [svs]
theorem str_ok : ElemOk Try.prog 9 1 16 (.string ⟨#[]⟩) := elemOk (by kernel_rfl) rfl (by decide)
theorem Reads.slen {w : World} {B n : Nat} {A : Option Addr} {l : List ByteArray} (h : Reads w B 1 A n (svs l)) : l.length = n := by have := h.1; rw [svs_length] at this; omega
theorem Reads.text {w : World} {B n : Nat} {A : Option Addr} {l : List ByteArray} {k : Nat} (h : Reads w B 1 A n (svs l)) (hk : k < n) :
    ∃ b o s, A = some ⟨b, o, none⟩ ∧ b < B ∧ l[k]? = some s ∧ w.cell? ⟨b, o + k, none⟩ = some (.string s) := by
  obtain ⟨b, o, u, e, hb, hu, hc⟩ := h.at_ hk
  rw [svs_at] at hu
  cases hx : l[k]? with
  | none => rw [hx] at hu; cases hu
  | some s => rw [hx] at hu; simp at hu; exact ⟨b, o, s, e, hb, rfl, by rw [hc, ← hu]⟩

abbrev dcells (A : Option Addr) (len cap first n : Nat) : Array Value := #[.slice A len cap, .int .i64 first, .int .i64 n, .bool true]

theorem none_any (g : Nat) (v a b : Value) (w : World) (h : Blk w g 57 #[v, a, b, .bool true]) :
    Calls Try.prog 35 #[.pointer (some ⟨g, 0, none⟩)] w fun e w' => e = .returned (.bool false) ∧ w = w' := by
  have h3 := h.cell 3
  rw [show (#[v, a, b, Value.bool true] : Array Value)[3]? = some (.bool true) from rfl] at h3
  go_enter Try.func35, Try.ntmps35
  go_wp2_with fail
  go_ret
  exact ⟨rfl, rfl⟩
theorem none_nil (w : World) : Calls Try.prog 35 #[.pointer none] w fun e w' => e = .returned (.bool true) ∧ w = w' := by
  go_enter Try.func35, Try.ntmps35
  go_wp2_with fail
  go_ret
  exact ⟨rfl, rfl⟩
theorem len_any (g : Nat) (v a : Value) (n : Nat) (w : World) (h : Blk w g 57 #[v, a, .int .i64 n, .bool true]) :
    Calls Try.prog 21 #[.pointer (some ⟨g, 0, none⟩)] w fun e w' => e = .returned (.int .i64 n) ∧ w = w' := by
  have h2 := h.cell 2
  rw [show (#[v, a, Value.int .i64 n, Value.bool true] : Array Value)[2]? = some (.int .i64 n) from rfl] at h2
  go_enter Try.func21, Try.ntmps21
  go_wp2_with (first
    | (go_at_call 35; refine (none_any g v a _ w h).mono ?_; rintro e w1 ⟨rfl, rfl⟩)
    | fail)
  go_ret
  exact ⟨rfl, rfl⟩
theorem len_nil (w : World) : Calls Try.prog 21 #[.pointer none] w fun e w' => e = .returned (.int .i64 0) ∧ w = w' := by
  go_enter Try.func21, Try.ntmps21
  go_wp2_with (first
    | (go_at_call 35; refine (none_nil w).mono ?_; rintro e w1 ⟨rfl, rfl⟩)
    | fail)
  go_ret
  exact ⟨rfl, rfl⟩

theorem at_any (g : Nat) (A : Option Addr) (len cap first n i : Nat) (w : World) (h : Blk w g 57 (dcells A len cap first n)) (hl : 0 < len) (hlb : len ≤ 200000) (hf : first ≤ 200000) (hi : i ≤ 200000) :
    Calls Try.prog 33 #[.pointer (some ⟨g, 0, none⟩), .int .i64 i] w fun e w' => e = .returned (.int .i64 ((first + i) % len : Nat)) ∧ ∃ m, w' = w.drewN m := by
  have h0 := h.cell 0
  have h1 := h.cell 1
  rw [show (dcells A len cap first n)[0]? = some (.slice A len cap) from rfl] at h0
  rw [show (dcells A len cap first n)[1]? = some (.int .i64 first) from rfl] at h1
  have hz : ¬ (len : Int) = 0 := by omega
  have hw : IntKind.i64.wrap ((first : Int) + (i : Int)) = (first : Int) + (i : Int) := IntWalk.i64_in _ (by omega)
  have hlp : (0 : Int) < (len : Int) := by omega
  go_enter Try.func33, Try.ntmps33
  go_wp2_with fail
  go_quiet (fail)
  go_wp2_with fail
  go_ret
  refine ⟨ret_int ?_, _, rfl⟩
  rw [Int.natCast_emod, Int.natCast_add]

theorem long_any (s : ByteArray) (hs : s.size ≤ 1048576) (w : World) : Calls Try.prog 39 #[.string s] w fun e w' => e = .returned (.bool false) ∧ w = w' := by
  have h : ¬ (1048576 : Int) < (s.size : Int) := by omega
  go_enter Try.func39, Try.ntmps39
  go_wp2_with fail
  go_ret
  exact ⟨rfl, rfl⟩
theorem index_any (A : Option Addr) (n c : Nat) (l : List ByteArray) (w : World) {B : Nat} (hr : Reads w B 1 A n (svs l)) (hn : n ≤ maxLen) (hs : ∀ s ∈ l, s.size ≤ 1048576) :
    Calls Try.prog 45 #[.slice A n c, .func (.func 39) #[] #[]] w fun e w' => e = .returned (.int .i64 (-1)) ∧ w = w' := by
  have hn' : n ≤ 9223372036854775807 := hn
  go_enter Try.func45, Try.ntmps45
  go_wp2_with fail
  go_loopw [5, 8] (fun _ i wr => ∃ t : Nat, t ≤ n ∧ i = .int .i64 t ∧ wr = w) (fun _ i _ => n - (intOf i).toNat)
  case atStart => exact ⟨0, by omega, rfl, rfl⟩
  case round =>
    obtain ⟨t, ht, rfl, rfl⟩ := hrel
    by_cases htn : t < n
    · have htI : (t : Int) < (n : Int) := by omega
      obtain ⟨b, o, s, rfl, hb, hls, hcell⟩ := hr.text htn
      have hw2 : IntKind.i64.wrap ((t : Int) + 1) = (t : Int) + 1 := IntWalk.i64_in _ (by omega)
      go_wp2_with (first
        | (go_at_call 39; refine (long_any s (hs s (List.mem_of_getElem? hls)) wr).mono ?_; rintro e w1 ⟨rfl, rfl⟩)
        | fail)
      go_roundw
      case rel => exact ⟨t + 1, by omega, by simp, by first | rfl | trivial⟩
      case measure => simp [intOf]; omega
    · have htI : ¬ (t : Int) < (n : Int) := by omega
      go_wp2_with fail
      go_ret
      exact ⟨rfl, rfl⟩
theorem contains_any (A : Option Addr) (n c : Nat) (l : List ByteArray) (w : World) {B : Nat} (hr : Reads w B 1 A n (svs l)) (hn : n ≤ maxLen) (hs : ∀ s ∈ l, s.size ≤ 1048576) :
    Calls Try.prog 40 #[.slice A n c, .func (.func 39) #[] #[]] w fun e w' => e = .returned (.bool false) ∧ w = w' := by
  go_enter Try.func40, Try.ntmps40
  go_wp2_with (first
    | (go_at_call 45; refine (index_any A n c l w hr hn hs).mono ?_; rintro e w1 ⟨rfl, rfl⟩)
    | fail)
  go_ret
  exact ⟨rfl, rfl⟩
theorem fits_any (k : Nat) (A : Option Addr) (n c : Nat) (l : List ByteArray) (w : World) {B : Nat} (hr : Reads w B 1 A n (svs l)) (hk : k + n ≤ 65536) (hs : ∀ s ∈ l, s.size ≤ 1048576) :
    Calls Try.prog 31 #[.int .i64 k, .slice A n c] w fun e w' => e = .returned (.bool true) ∧ w = w' := by
  have hw : IntKind.i64.wrap ((k : Int) + (n : Int)) = (k : Int) + (n : Int) := IntWalk.i64_in _ (by omega)
  have hle : (k : Int) + (n : Int) ≤ 65536 := by omega
  go_enter Try.func31, Try.ntmps31
  go_wp2_with (first
    | (go_at_call 40; refine (contains_any A n c l w hr (by unfold maxLen; omega) hs).mono ?_; rintro e w1 ⟨rfl, rfl⟩)
    | fail)
  go_ret
  exact ⟨rfl, rfl⟩
end Go.Proofs.Ytlglelgnpkdnbaa
