/- The walks of Size (packages frames, taborref03) and of One. Conditions: those of each theorem. -/
import Derived.Test.YtbpodmgogokpiaaTx
namespace Go.Proofs.Ytbpodmgogokpiaa
open Go.RowKit
set_option linter.unusedVariables false

/-- a body's length, as it is summed up -/
def fsum (l : List ByteArray) (t : Nat) : Nat := 4 + ((l.take t).map fun s => 4 + s.size).sum
theorem fsum_zero (l : List ByteArray) : fsum l 0 = 4 := by simp [fsum]
theorem fsum_succ {l : List ByteArray} {t : Nat} {s : ByteArray} (hs : l[t]? = some s) : fsum l (t + 1) = fsum l t + 4 + s.size := by
  unfold fsum
  rw [List.take_add_one, hs]
  simp
  omega
theorem fsum_mono (l : List ByteArray) (t : Nat) : fsum l t ≤ fsum l (t + 1) := by
  cases h : l[t]? with
  | none => unfold fsum; rw [List.take_add_one, h]; simp
  | some s => rw [fsum_succ h]; omega
/-- what the closure makes of its two variables -/
def addN (n : Nat) (f : Bool) (k : Nat) : Nat := if f = true ∧ k + n ≤ 1048576 then n + k else n
def addF (n : Nat) (f : Bool) (k : Nat) : Bool := f && decide (k + n ≤ 1048576)
def sz (l : List ByteArray) : Nat → Nat × Bool
  | 0 => (4, true)
  | t + 1 => (addN (addN (sz l t).1 (sz l t).2 4) (addF (sz l t).1 (sz l t).2 4) (l.getD t ⟨#[]⟩).size, addF (addN (sz l t).1 (sz l t).2 4) (addF (sz l t).1 (sz l t).2 4) (l.getD t ⟨#[]⟩).size)
def szN (l : List ByteArray) (t : Nat) : Nat := (sz l t).1
def szF (l : List ByteArray) (t : Nat) : Bool := (sz l t).2
theorem szN_succ (l : List ByteArray) (t : Nat) : szN l (t + 1) = addN (addN (szN l t) (szF l t) 4) (addF (szN l t) (szF l t) 4) (l.getD t ⟨#[]⟩).size := rfl
theorem szF_succ (l : List ByteArray) (t : Nat) : szF l (t + 1) = addF (addN (szN l t) (szF l t) 4) (addF (szN l t) (szF l t) 4) (l.getD t ⟨#[]⟩).size := rfl
theorem szN_zero (l : List ByteArray) : szN l 0 = 4 := rfl
theorem szF_zero (l : List ByteArray) : szF l 0 = true := rfl
theorem addN_le {n k : Nat} {f : Bool} (h : n ≤ 1048576) : addN n f k ≤ 1048576 := by unfold addN; split <;> omega
theorem szN_le (l : List ByteArray) : ∀ t, szN l t ≤ 1048576
  | 0 => by rw [szN_zero]; decide
  | t + 1 => by rw [szN_succ]; exact addN_le (addN_le (szN_le l t))
theorem sz_sum (l : List ByteArray) : ∀ t, t ≤ l.length → (szF l t = decide (fsum l t ≤ 1048576)) ∧ (fsum l t ≤ 1048576 → szN l t = fsum l t)
  | 0, _ => by rw [fsum_zero, szN_zero, szF_zero]; simp
  | t + 1, ht => by
    obtain ⟨h1, h2⟩ := sz_sum l t (by omega)
    obtain ⟨s, hs⟩ : ∃ s, l[t]? = some s := ⟨_, List.getElem?_eq_getElem (by omega)⟩
    have hg : l.getD t ⟨#[]⟩ = s := by rw [List.getD_eq_getElem?_getD, hs]; rfl
    have hsu := fsum_succ hs
    rw [szN_succ, szF_succ, hg]
    unfold addN addF
    by_cases hf : fsum l t ≤ 1048576
    · rw [h1, h2 hf]
      simp only [decide_eq_true_eq, Bool.and_eq_true, hf, true_and]
      by_cases h4 : 4 + fsum l t ≤ 1048576
      · simp only [h4, if_true, decide_true, Bool.true_and, Bool.and_true, true_and]
        constructor
        · congr 1
          rw [hsu]
          exact propext ⟨fun h => by omega, fun h => by omega⟩
        · intro h; rw [if_pos (by omega)]; omega
      · simp only [h4, if_false, decide_false, Bool.and_false, Bool.false_and, false_and]
        constructor
        · rw [eq_comm, decide_eq_false_iff_not]; omega
        · intro h; omega
    · rw [h1]
      simp only [hf, decide_false, Bool.false_and, false_and, if_false, Bool.false_eq_true]
      constructor
      · rw [eq_comm, decide_eq_false_iff_not]; omega
      · intro h; omega
/-- how many bytes a list's frame has; 0: it may not be framed -/
def sizeF (l : List ByteArray) : Nat := if l.length ≤ 65536 ∧ fsum l l.length ≤ 1048576 then fsum l l.length + 8 else 0

theorem add_any (bn bf n k : Nat) (f : Bool) (w : World) (hn : Blk w bn 3 #[.int .i64 n]) (hf : Blk w bf 4 #[.bool f]) (hn2 : n ≤ 1048576) (hk : k ≤ 140737488351232) :
    Calls Try.prog 32 #[.int .i64 k, .pointer (some ⟨bf, 0, none⟩), .pointer (some ⟨bn, 0, none⟩)] w fun e w' => e = .returned (.tuple #[]) ∧ Blk w' bn 3 #[.int .i64 (addN n f k)] ∧ Blk w' bf 4 #[.bool (addF n f k)] ∧ ∀ B, B ≤ bn → B ≤ bf → Below B w w' := by
  have hne : bn ≠ bf := hn.ne_ hf (by decide)
  have c0 := hn.cell 0
  have c1 := hf.cell 0
  rw [show (#[Value.int .i64 n] : Array Value)[0]? = some (.int .i64 n) from rfl] at c0
  rw [show (#[Value.bool f] : Array Value)[0]? = some (.bool f) from rfl] at c1
  have f0 := hn.frozen 0
  have f1 := hf.frozen 0
  have hn' : Blk (w.setCell ⟨bf, 0, none⟩ (.bool (addF n f k))) bn 3 #[.int .i64 n] := hn.far (p := ⟨bf, 0, none⟩) hne _
  have hf' : Blk (w.setCell ⟨bf, 0, none⟩ (.bool (addF n f k))) bf 4 #[.bool (addF n f k)] := hf.set_ 0 _
  have hne' : ¬ bf = bn := fun e => hne e.symm
  cases f with
  | false =>
    have e1 : addN n false k = n := by unfold addN; simp
    have e2 : addF n false k = false := by unfold addF; simp
    rw [e2] at hn' hf'
    rw [e1, e2]
    go_enter Try.func32, Try.ntmps32
    go_wp2_with fail
    go_end0
    exact ⟨rfl, hn', hf', fun B h1 h2 => (Below.refl _ _).setCell h2 _⟩
  | true =>
    have hws : IntKind.i64.wrap ((1048576 : Int) - (n : Int)) = (1048576 : Int) - (n : Int) := IntWalk.i64_in _ (by omega)
    by_cases hkn : k + n ≤ 1048576
    · have e1 : addN n true k = n + k := by unfold addN; simp [hkn]
      have e2 : addF n true k = true := by unfold addF; simp [hkn]
      have hle : (k : Int) ≤ 1048576 - (n : Int) := by omega
      have hwa : IntKind.i64.wrap ((n : Int) + (k : Int)) = (n : Int) + (k : Int) := IntWalk.i64_in _ (by omega)
      rw [e2] at hn' hf'
      rw [e1, e2]
      go_enter Try.func32, Try.ntmps32
      go_wp2_with fail
      go_end0
      refine ⟨rfl, ?_, hf'.far (p := ⟨bn, 0, none⟩) hne' _, fun B h1 h2 => ((Below.refl _ _).setCell h2 _).setCell h1 _⟩
      have := hn'.set_ 0 (.int .i64 ((n + k : Nat) : Int))
      simpa using this
    · have e1 : addN n true k = n := by unfold addN; simp [hkn]
      have e2 : addF n true k = false := by unfold addF; simp [hkn]
      have hle : ¬ (k : Int) ≤ 1048576 - (n : Int) := by omega
      rw [e2] at hn' hf'
      rw [e1, e2]
      go_enter Try.func32, Try.ntmps32
      go_wp2_with fail
      go_end0
      exact ⟨rfl, hn', hf', fun B h1 h2 => (Below.refl _ _).setCell h2 _⟩

theorem size_long (A : Option Addr) (n c : Nat) (w : World) (hn : 65536 < n) :
    Calls Try.prog 15 #[.slice A n c] w fun e w' => e = .returned (.int .i64 0) ∧ w = w' := by
  have hI : (65536 : Int) < (n : Int) := by omega
  go_enter Try.func15, Try.ntmps15
  go_wp2_with fail
  go_ret
  exact ⟨rfl, rfl⟩

set_option maxHeartbeats 1000000 in
theorem size_any (A : Option Addr) (n c : Nat) (l : List ByteArray) (w : World) (hr : Reads w w.heap.size 1 A n (svs l)) (hs : ∀ s ∈ l, s.size ≤ 140737488351232) :
    Calls Try.prog 15 #[.slice A n c] w fun e w' => e = .returned (.int .i64 (sizeF l)) ∧ Below w.heap.size w w' := by
  have hl := hide hr.slen
  by_cases hn : n ≤ 65536
  case neg =>
    refine (size_long A n c w (by omega)).mono ?_
    rintro e w' ⟨rfl, rfl⟩
    refine ⟨ret_int ?_, Below.refl _ _⟩
    unfold sizeF
    rw [if_neg (by rw [hl.out]; omega)]
    rfl
  case pos =>
    have hI : ¬ (65536 : Int) < (n : Int) := by omega
    go_enter Try.func15, Try.ntmps15
    go_wp2_with fail
    have hN0 := (Blk.new w 3 #[.int .i64 4]).alloc (.cells #[.bool true] 4)
    have hF0 := Blk.new (w.alloc (.cells #[.int .i64 4] 3)) 4 #[.bool true]
    rw [World.size_alloc] at hF0
    have hb0 : Below w.heap.size w ((w.alloc (.cells #[.int .i64 4] 3)).alloc (.cells #[.bool true] 4)) := ((Below.refl _ w).alloc (Nat.le_refl _) _).alloc (by simp) _
    generalize (w.alloc (.cells #[.int .i64 4] 3)).alloc (.cells #[.bool true] 4) = w1 at *
    have hpost := sz_sum l l.length (Nat.le_refl _)
    have HP := hide hpost
    clear hpost
    go_loopw [14] (fun i wr => ∃ t : Nat, t ≤ n ∧ i = .int .i64 t ∧ Blk wr w.heap.size 3 #[.int .i64 (szN l t)] ∧ Blk wr (w.heap.size + 1) 4 #[.bool (szF l t)] ∧ Below w.heap.size w wr)
      (fun i _ => n - (intOf i).toNat)
    case atStart => exact ⟨0, by omega, rfl, hN0, hF0, hb0⟩
    case round =>
      obtain ⟨t, ht, rfl, hN, hF, hbw⟩ := hrel
      by_cases htn : t < n
      · have htI : (t : Int) < (n : Int) := by omega
        obtain ⟨b, o, s, rfl, hb, hls, hcell⟩ := (hr.below hbw).text htn
        have hw2 : IntKind.i64.wrap ((t : Int) + 1) = (t : Int) + 1 := IntWalk.i64_in _ (by omega)
        have hsz := hs s (List.mem_of_getElem? hls)
        have hle := szN_le l t
        have hle2 := addN_le (k := 4) (f := szF l t) hle
        have hg : l.getD t ⟨#[]⟩ = s := by rw [List.getD_eq_getElem?_getD, hls]; rfl
        have HN := hide (szN_succ l t)
        have HF := hide (szF_succ l t)
        rw [hg] at HN HF
        generalize szN l t = a at *
        generalize szF l t = f at *
        clear hg hls
        go_wp2_with (first
          | (go_at_call_of 32 (Value.int .i64 4)
             go_must (
             refine (add_any _ _ a 4 f _ hN hF hle (by omega)).mono ?_
             rintro e w2 ⟨rfl, hN2, hF2, hb2⟩
             have hbw2 := hbw.trans (hb2 w.heap.size (Nat.le_refl _) (Nat.le_succ _))
             clear hb2))
          | (go_at_call 32
             go_must (
             refine (add_any _ _ _ s.size _ _ hN2 hF2 hle2 hsz).mono ?_
             rintro e w3 ⟨rfl, hN3, hF3, hb3⟩
             have hbw3 := hbw2.trans (hb3 w.heap.size (Nat.le_refl _) (Nat.le_succ _))
             clear hb3))
          | fail)
        go_roundw
        case rel => exact ⟨t + 1, by omega, by simp, by rw [HN.out]; exact hN3, by rw [HF.out]; exact hF3, hbw3⟩
        case measure => simp [intOf]; omega
      · have htI : ¬ (t : Int) < (n : Int) := by omega
        obtain rfl : t = n := by omega
        have c0 := hN.cell 0
        have c1 := hF.cell 0
        rw [show (#[Value.int .i64 (szN l t)] : Array Value)[0]? = some (.int .i64 (szN l t)) from rfl] at c0
        rw [show (#[Value.bool (szF l t)] : Array Value)[0]? = some (.bool (szF l t)) from rfl] at c1
        have hle := szN_le l t
        have hp := HP.out
        rw [hl.out] at hp
        obtain ⟨hp1, hp2⟩ := hp
        by_cases hfs : fsum l t ≤ 1048576
        · have hF1 : szF l t = true := by rw [hp1]; simpa using hfs
          have HN1 := hide (hp2 hfs)
          rw [hF1] at c1
          clear hp1 hp2 hF1
          have hwa : IntKind.i64.wrap ((szN l t : Int) + 8) = (szN l t : Int) + 8 := IntWalk.i64_in _ (by omega)
          go_wp2_with fail
          go_ret
          refine ⟨ret_int ?_, hbw⟩
          unfold sizeF
          rw [if_pos (by rw [hl.out]; exact ⟨hn, hfs⟩), hl.out, HN1.out]
          omega
        · have hF1 : szF l t = false := by rw [hp1]; simpa using hfs
          rw [hF1] at c1
          clear hp1 hp2 hF1
          go_wp2_with fail
          go_ret
          refine ⟨ret_int ?_, hbw⟩
          unfold sizeF
          rw [if_neg (by rw [hl.out]; exact fun h => hfs h.2)]
          rfl
end Go.Proofs.Ytbpodmgogokpiaa
