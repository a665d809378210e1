/- The walks of slices.Grow, slices.Concat and Put (package frames). Conditions: those of each theorem. -/
import Derived.Test.YtbpodmgogokpiaaFrB
import Derived.Lib.AppendZeros
namespace Go.Proofs.Ytbpodmgogokpiaa
open Go.RowKit
set_option linter.unusedVariables false

theorem grow_any (n : Nat) (w : World) (hn : n ≤ 100000000) :
    Calls Try.prog 42 #[.slice none 0 0, .int .i64 n] w fun e w' => ∃ v, e = .returned v ∧ w'.ownsRow w.heap.size 5 1 v 0 [] ∧ Below w.heap.size w w' := by
  by_cases h0 : n = 0
  · subst h0
    go_enter Try.func42, Try.ntmps42
    go_wp2_with fail
    go_ret
    exact ⟨_, rfl, World.ownsRow_nil _ _ _ _, Below.refl _ _⟩
  · obtain ⟨i0, hi, hz0, hz1, hz2⟩ := u8_ok
    have happ := Lib.run_append_nil_zeros (P := Try.prog) w 25 3 25 5 i0 (.int .u8 0) .i64 .i64 Try.underlying25 Try.underlying3 hi hz0 n (by omega) (by omega) (by omega) (by rw [hz2.1]; omega)
    have hge := grownCap_ge w n 0 5
    have hle := grownCap_le_maxLen w n 0 5 (by unfold maxLen; omega)
    generalize grownCap w n 0 5 = cap at *
    have hZ : (Builtin.zeroCells (Value.int .u8 0).cells n ++ Builtin.zeroCells (Value.int .u8 0).cells (cap - n)).size = cap := by simp [size_zeroCells, Value.cells]; omega
    generalize (Builtin.zeroCells (Value.int .u8 0).cells n ++ Builtin.zeroCells (Value.int .u8 0).cells (cap - n)) = Z at *
    have hk : Blk (w.drew.alloc (.cells Z 5)) w.heap.size 5 Z := Blk.new w.drew _ _
    have hb : Below w.heap.size w (w.drew.alloc (.cells Z 5)) := (Below.refl _ w).drew.alloc (by simp) _
    have hnI : (0 : Int) < (n : Int) := by omega
    have hnN : ¬ (n : Int) < 0 := by omega
    have hcI : (0 : Int) ≤ (cap : Int) := by omega
    clear hi hz0 hz1 hz2
    go_enter Try.func42, Try.ntmps42
    go_wp2_with (first
      | (at_builtin
         go_must (
         refine Lib.wpList_append_run _ rfl _ _ _ _ rfl _ _ rfl rfl _ _ happ ?_
         generalize w.drew.alloc (.cells Z 5) = w1 at *))
      | fail)
    go_ret
    exact ⟨_, rfl, own_made0 hk (Nat.le_refl _) hZ hle, hb⟩

/-- a slice of bytes as a value -/
structure Part where
  A : Option Addr
  n : Nat
  c : Nat
  l : List UInt8
def partsV (ps : List Part) : List Value := ps.map fun p => .slice p.A p.n p.c
def pcat (ps : List Part) (t : Nat) : List UInt8 := ((ps.take t).map (·.l)).flatten
theorem pcat_zero (ps : List Part) : pcat ps 0 = [] := by simp [pcat]
theorem pcat_succ {ps : List Part} {t : Nat} {p : Part} (h : ps[t]? = some p) : pcat ps (t + 1) = pcat ps t ++ p.l := by
  unfold pcat
  rw [List.take_add_one, h]
  simp
theorem pcat_le (ps : List Part) (t : Nat) : (pcat ps t).length ≤ (pcat ps ps.length).length := by
  unfold pcat
  rw [List.take_length]
  have h : (ps.map (·.l)).flatten = ((ps.take t).map (·.l)).flatten ++ ((ps.drop t).map (·.l)).flatten := by rw [← List.flatten_append, ← List.map_append, List.take_append_drop]
  rw [h, List.length_append]
  omega
theorem parts_at {ps : List Part} {t : Nat} {u : Value} (h : (partsV ps)[t]? = some u) : ∃ p, ps[t]? = some p ∧ u = .slice p.A p.n p.c := by
  simp only [partsV, List.getElem?_map, Option.map_eq_some_iff] at h
  obtain ⟨p, h1, h2⟩ := h
  exact ⟨p, h1, h2.symm⟩

set_option maxHeartbeats 1000000 in
theorem concat_any (A : Option Addr) (m c : Nat) (ps : List Part) (w : World) (hr : Reads w w.heap.size 1 A m (partsV ps)) (hps : ∀ p ∈ ps, Reads w w.heap.size 1 p.A p.n (bvs p.l) ∧ p.n ≤ 100000000) (hm : m ≤ 1000) (htot : (pcat ps ps.length).length ≤ 100000000) :
    Calls Try.prog 25 #[.slice A m c] w fun e w' => ∃ v, e = .returned v ∧ w'.ownsRow w.heap.size 5 1 v (pcat ps ps.length).length (bvs (pcat ps ps.length)) ∧ Below w.heap.size w w' := by
  have hpl : ps.length = m := by have := hr.1; simp [partsV] at this; omega
  have HPL := hide hpl
  have HTOT := hide htot
  clear hpl htot
  go_enter Try.func25, Try.ntmps25
  go_wp2_with fail
  go_loopw [3, 11] (fun a i wr => ∃ t : Nat, t ≤ m ∧ i = .int .i64 t ∧ a = .int .i64 (pcat ps t).length ∧ w = wr) (fun _ i _ => m - (intOf i).toNat)
  case atStart => exact ⟨0, by omega, rfl, by rw [pcat_zero]; rfl, rfl⟩
  case round =>
    obtain ⟨t, ht, rfl, rfl, rfl⟩ := hrel
    by_cases htn : t < m
    · have htI : (t : Int) < (m : Int) := by omega
      obtain ⟨b, o, u, rfl, hb, hu, hcell⟩ := hr.at_ htn
      obtain ⟨p, hp, rfl⟩ := parts_at hu
      have hpp := (hps p (List.mem_of_getElem? hp))
      have hpn := hpp.2
      have hln := hpp.1.blen
      have hsu := hide (pcat_succ hp)
      have hle : (pcat ps t).length ≤ 100000000 := Nat.le_trans (pcat_le ps t) HTOT.out
      have HLEN : Hid ((pcat ps (t + 1)).length = (pcat ps t).length + p.n) := by show _ = _; rw [hsu.out, List.length_append, hln]
      have hw2 : IntKind.i64.wrap ((t : Int) + 1) = (t : Int) + 1 := IntWalk.i64_in _ (by omega)
      clear hu hp hpp hln
      generalize (pcat ps t).length = q at *
      have hnn : ¬ (q : Int) + (p.n : Int) < 0 := by omega
      go_wp2_with fail
      go_roundw
      case rel => exact ⟨t + 1, by omega, by simp, by rw [HLEN.out]; simp, trivial⟩
      case measure => simp [intOf]; omega
    · have htI : ¬ (t : Int) < (m : Int) := by omega
      obtain rfl : t = m := by omega
      have hle : (pcat ps t).length ≤ 100000000 := Nat.le_trans (pcat_le ps t) HTOT.out
      have HG := fun w => hide (grow_any (pcat ps t).length w hle)
      generalize (pcat ps t).length = q at *
      go_wp2_with (first
        | (go_at_call 42
           go_must (
           refine (HG _).out.mono ?_
           rintro e w1 ⟨v1, rfl, hown1, hb1⟩))
        | fail)
      clear ht htI hle HG htn
      go_loopw [6, 27] (fun v i wr => ∃ k : Nat, k ≤ t ∧ i = .int .i64 k ∧ wr.ownsRow w.heap.size 5 1 v (pcat ps k).length (bvs (pcat ps k)) ∧ Below w.heap.size w wr) (fun _ i _ => t - (intOf i).toNat)
      case atStart => exact ⟨0, by omega, rfl, by rw [pcat_zero]; exact hown1, hb1⟩
      case round =>
        obtain ⟨k, hk, rfl, hown, hbw⟩ := hrel
        by_cases hkn : k < t
        · have htI : (k : Int) < (t : Int) := by omega
          obtain ⟨b, o, u, rfl, hb, hu, hcell⟩ := (hr.below hbw).at_ hkn
          obtain ⟨p, hp, rfl⟩ := parts_at hu
          have hpp := (hps p (List.mem_of_getElem? hp))
          have hpn := hpp.2
          have hrp := hpp.1.below hbw
          have hln := hpp.1.blen
          have hsu := hide (pcat_succ hp)
          have hle : (pcat ps k).length ≤ 100000000 := Nat.le_trans (pcat_le ps k) HTOT.out
          have HLEN : Hid ((pcat ps (k + 1)).length = (pcat ps k).length + p.n) := by show _ = _; rw [hsu.out, List.length_append, hln]
          have hw2 : IntKind.i64.wrap ((k : Int) + 1) = (k : Int) + 1 := IntWalk.i64_in _ (by omega)
          clear hu hp hpp hln
          go_wp2_with (first
            | (at_builtin
               go_must (
               refine wpList_append rfl (.tmp 31) (.tmp 32) 25 rfl u8_ok Try.underlying25 hown rfl hrp rfl (bvs_one _) (by unfold maxLen; omega) (by omega) (by have := hbw.size; omega) ?_
               intro v2 w2 hown2 hb2 _ _))
            | fail)
          go_roundw
          case rel =>
            refine ⟨k + 1, by omega, by simp, ?_, hbw.trans hb2⟩
            rw [HLEN.out, hsu.out, bvs_append]
            exact hown2
          case measure => simp [intOf]; omega
        · have htI : ¬ (k : Int) < (t : Int) := by omega
          obtain rfl : k = t := by omega
          go_wp2_with fail
          go_ret
          rw [HPL.out]
          exact ⟨_, rfl, hown, hbw⟩

/-- a body of texts -/
def bodyT (l : List ByteArray) (t : Nat) : List UInt8 := le4 l.length ++ ((l.take t).map fun s => le4 s.size ++ s.data.toList).flatten
def bodyF (l : List ByteArray) : List UInt8 := bodyT l l.length
theorem bodyT_zero (l : List ByteArray) : bodyT l 0 = le4 l.length := by simp [bodyT]
theorem bodyT_succ {l : List ByteArray} {t : Nat} {s : ByteArray} (hs : l[t]? = some s) : bodyT l (t + 1) = bodyT l t ++ le4 s.size ++ s.data.toList := by
  unfold bodyT
  rw [List.take_add_one, hs]
  simp
theorem bodyT_length (l : List ByteArray) : ∀ t, (bodyT l t).length = fsum l t
  | 0 => by rw [bodyT_zero, fsum_zero]; rfl
  | t + 1 => by
    cases hs : l[t]? with
    | none =>
      have e1 : bodyT l (t + 1) = bodyT l t := by unfold bodyT; rw [List.take_add_one, hs]; simp
      have e2 : fsum l (t + 1) = fsum l t := by unfold fsum; rw [List.take_add_one, hs]; simp
      rw [e1, e2, bodyT_length l t]
    | some s =>
      rw [bodyT_succ hs, fsum_succ hs, List.length_append, List.length_append, bodyT_length l t, le4_length, Array.length_toList]
      rfl
/-- a list's frame -/
def frameF (l : List ByteArray) : List UInt8 := le4 (bodyF l).length ++ le4 (sumF (bodyF l)) ++ bodyF l
theorem frame_length (l : List ByteArray) : (frameF l).length = fsum l l.length + 8 := by
  unfold frameF bodyF
  rw [List.length_append, List.length_append, le4_length, le4_length, bodyT_length]
  omega
theorem strCells_bvs (s : ByteArray) : Lib.strCells s = bvs s.data.toList := rfl
theorem sumF_lt (l : List UInt8) : sumF l < 4294967296 := crcUpd_lt _ (crcUpd_lt 0 (by decide) _) _

theorem put_long (A : Option Addr) (n c : Nat) (l : List ByteArray) (w : World) (hr : Reads w w.heap.size 1 A n (svs l)) (hs : ∀ s ∈ l, s.size ≤ 140737488351232) (h0 : sizeF l = 0) :
    Calls Try.prog 12 #[.slice A n c] w fun e w' => e = .returned (.tuple #[.slice none 0 0, .int .i64 3]) ∧ Below w.heap.size w w' := by
  have H := hide (size_any A n c l w hr hs)
  rw [h0] at H
  clear h0
  go_enter Try.func12, Try.ntmps12
  go_wp2_with (first
    | (go_at_call 15; refine H.out.mono ?_; rintro e w1 ⟨rfl, hb1⟩)
    | fail)
  go_ret2
  exact ⟨rfl, hb1⟩

set_option maxHeartbeats 2000000 in
theorem put_any (A : Option Addr) (n c : Nat) (l : List ByteArray) (w : World) (hr : Reads w w.heap.size 1 A n (svs l)) (hs : ∀ s ∈ l, s.size ≤ 140737488351232) (h0 : ¬ sizeF l = 0) :
    Calls Try.prog 12 #[.slice A n c] w fun e w' => ∃ v, e = .returned (.tuple #[v, .int .i64 0]) ∧ w'.ownsRow w.heap.size 5 1 v (frameF l).length (bvs (frameF l)) ∧ Below w.heap.size w w' := by
  have H := hide (size_any A n c l w hr hs)
  have hf : l.length ≤ 65536 ∧ fsum l l.length ≤ 1048576 := by
    unfold sizeF at h0
    split at h0
    · assumption
    · exact absurd rfl h0
  have hsz : sizeF l = fsum l l.length + 8 := by unfold sizeF; rw [if_pos hf]
  have hl := hide hr.slen
  have hbl := hide (bodyT_length l l.length)
  obtain ⟨hf1, hf2⟩ := hf
  have hn : n ≤ 65536 := by rw [← hl.out]; exact hf1
  rw [hsz] at H
  clear hsz h0 hf1
  have HFL := hide (frame_length l)
  obtain ⟨q, hq⟩ : ∃ q, fsum l l.length = q := ⟨_, rfl⟩
  rw [hq] at H hf2 hbl HFL
  have HQ := hide hq
  clear hq
  have hw8 : IntKind.i64.wrap (((q + 8 : Nat) : Int) - 8) = (q : Int) := by rw [IntKind.wrap_i64]; omega
  have hqz : (((q + 8 : Nat) : Int) == 0) = false := by simp; omega
  go_enter Try.func12, Try.ntmps12
  go_wp2_with (first
    | (go_at_call 15; refine H.out.mono ?_; rintro e w1 ⟨rfl, hb1⟩)
    | (refine wpList_make rfl (.const (.int .i64 0)) (.tmp 13) 25 rfl u8_ok rfl Try.underlying25 (n := 0) (c := q) rfl rfl (by omega) (by omega) (by unfold maxLen; omega) ?_
       intro w2 hb2 _ _ how2
       have hown2 := how2 w.heap.size hb1.size
       clear how2
       have hbw2 := hb1.trans (hb2.mono hb1.size))
    | (go_at_call 24
       go_must (
       refine (four_any (base := w.heap.size) _ 0 [] n w2 hown2 hbw2.size (by omega) (by omega)).mono ?_
       rintro e w3 ⟨v3, rfl, hown3, hb3⟩
       rw [Nat.zero_add, List.nil_append] at hown3
       have hbw3 := hbw2.trans hb3))
    | fail)
  go_loopw [5, 20] (fun v i wr => ∃ t : Nat, t ≤ n ∧ i = .int .i64 t ∧ wr.ownsRow w.heap.size 5 1 v (fsum l t) (bvs (bodyT l t)) ∧ Below w.heap.size w wr)
    (fun _ i _ => n - (intOf i).toNat)
  case atStart => exact ⟨0, by omega, rfl, by rw [fsum_zero, bodyT_zero, hl.out]; exact hown3, hbw3⟩
  case round =>
    clear hown2 hown3 hbw2 hbw3 hb1 hb2 hb3
    obtain ⟨t, ht, rfl, how, hbw⟩ := hrel
    by_cases htn : t < n
    · have htI : (t : Int) < (n : Int) := by omega
      obtain ⟨b, o, s, rfl, hb, hls, hcell⟩ := (hr.below hbw).text htn
      have hw2 : IntKind.i64.wrap ((t : Int) + 1) = (t : Int) + 1 := IntWalk.i64_in _ (by omega)
      have HS := hide (fsum_succ hls)
      have HBS := hide (bodyT_succ hls)
      have hle : fsum l (t + 1) ≤ q := by rw [← HQ.out]; exact fsum_le l (by rw [hl.out]; omega)
      rw [HS.out] at hle
      have hss : s.size < 4294967296 := by omega
      have hsm : s.size ≤ 1048576 := by omega
      have hfm : fsum l t ≤ 1048576 := by omega
      have hfs : fsum l t + 4 + s.size ≤ 1048576 := by omega
      clear hls hle
      generalize fsum l t = a at *
      obtain ⟨i0, hi, hz0, hz1, hz2⟩ := id u8_ok
      have HI := hide hi
      have HZ0 := hide hz0
      have HZ1 := hide hz1
      have HZ2 := hide hz2.1
      clear hi hz0 hz1 hz2
      go_wp2_with (first
        | (go_at_call 24
           go_must (
           refine (four_any (base := w.heap.size) _ a (bodyT l t) s.size wr how hbw.size (by omega) hss).mono ?_
           rintro e w3 ⟨v3, rfl, hown3, hb3⟩
           have hbw3 := hbw.trans hb3))
        | (at_builtin
           go_must (
           refine Lib.wpList_append_own_string _ rfl (.tmp 27) (.tmp 28) 25 9 rfl w.heap.size 5 i0 Try.underlying25 Try.underlying9 HI.out HZ0.out HZ1.out HZ2.out v3 (a + 4) _ rfl hown3 s rfl (by unfold maxLen; omega) (by omega) hbw3.size ?_
           intro v4 w4 hown4 hg4 _
           have hbw4 := hbw3.trans (below_grown hown3 hg4 hbw3.size)
           rw [strCells_bvs, ← bvs_append] at hown4))
        | fail)
      go_roundw
      case rel =>
        refine ⟨t + 1, by omega, by simp, ?_, hbw4⟩
        rw [HS.out, HBS.out]
        exact hown4
      case measure => simp [intOf]; omega
    · have htI : ¬ (t : Int) < (n : Int) := by omega
      obtain rfl : t = n := by omega
      rw [← hl.out, HQ.out] at how
      obtain ⟨A5, c5, rfl, hc51, hc52⟩ := own_slice how
      have HB : Hid (bodyT l l.length = bodyF l) := rfl
      rw [HB.out] at how hbl
      have hlt := sumF_lt (bodyF l)
      have hrb := Reads.of_own how
      have HSUM : Hid (∀ w6, Reads w6 w6.heap.size 1 A5 q (bvs (bodyF l)) → Calls Try.prog 27 #[.slice A5 q c5] w6 fun e w' => e = .returned (.int .u32 (sumF (bodyF l))) ∧ Below w6.heap.size w6 w') := fun w6 h => sum_any A5 q c5 (bodyF l) w6 h (by omega)
      have HPC : Hid (pcat [⟨none, 4, 0, le4 q⟩, ⟨none, 4, 0, le4 (sumF (bodyF l))⟩, ⟨none, q, 0, bodyF l⟩] 3 = frameF l) := by
        show _ = _
        unfold frameF pcat
        rw [hbl.out]
        simp
      have HPC' : ∀ A6 c6 A7 c7 A8 c8, pcat [⟨A6, 4, c6, le4 q⟩, ⟨A7, 4, c7, le4 (sumF (bodyF l))⟩, ⟨A8, q, c8, bodyF l⟩] 3 = frameF l := fun A6 c6 A7 c7 A8 c8 => HPC.out
      have HPD := hide HPC'
      clear HPC' HPC
      generalize sumF (bodyF l) = sm at *
      go_wp2_with (first
        | (go_at_call 24
           go_must (
           refine (four_any (base := wr.heap.size) (.slice none 0 0) 0 [] q wr (World.ownsRow_nil _ _ _ _) (Nat.le_refl _) (by omega) (by omega)).mono ?_
           rintro e w6 ⟨v6, rfl, hown6, hb6⟩
           rw [Nat.zero_add, List.nil_append] at hown6
           obtain ⟨A6, c6, rfl, hc61, hc62⟩ := own_slice hown6
           have hrb6 := (hrb.below hb6).more hb6.size
           have hr6 := Reads.of_own hown6
           have hbw6 := hbw.trans (hb6.mono hbw.size)))
        | (go_at_call 27
           go_must (
           refine (HSUM.out w6 hrb6).mono ?_
           rintro e w7 ⟨rfl, hb7⟩
           have hrb7 := (hrb6.below hb7).more hb7.size
           have hr7 := (hr6.below hb7).more hb7.size
           have hbw7 := hbw6.trans (hb7.mono hbw6.size)))
        | (go_at_call 26
           go_must (
           refine (bytes_any sm hlt w7).mono ?_
           rintro e w8 ⟨g8, rfl, hg8, hB8, hb8⟩
           have hrb8 := (hrb7.below hb8).more hb8.size
           have hr8 := (hr7.below hb8).more hb8.size
           have hs8 := le4_reads (B := w8.heap.size) sm hB8 hB8.lt
           have hbw8 := hbw7.trans (hb8.mono hbw7.size)))
        | (go_at_call 25
           go_must (
           have hk9 : Blk (w8.alloc (.cells #[.slice A6 4 c6, .slice (some ⟨g8, 0, none⟩) 4 4, .slice A5 q c5] 25)) w8.heap.size 25 #[.slice A6 4 c6, .slice (some ⟨g8, 0, none⟩) 4 4, .slice A5 q c5] := Blk.new w8 _ _
           have hb9 : Below w8.heap.size w8 (w8.alloc (.cells #[.slice A6 4 c6, .slice (some ⟨g8, 0, none⟩) 4 4, .slice A5 q c5] 25)) := (Below.refl _ w8).alloc (Nat.le_refl _) _
           generalize w8.alloc (.cells #[.slice A6 4 c6, .slice (some ⟨g8, 0, none⟩) 4 4, .slice A5 q c5] 25) = w9 at *
           have hbw9 := hbw8.trans (hb9.mono hbw8.size)
           have hrp9 : Reads w9 w9.heap.size 1 (some ⟨w8.heap.size, 0, none⟩) 3 (partsV [⟨A6, 4, c6, le4 q⟩, ⟨some ⟨g8, 0, none⟩, 4, 4, le4 sm⟩, ⟨A5, q, c5, bodyF l⟩]) := hk9.reads (k := 0) (m := 3) hk9.lt (by simp)
           refine (concat_any _ 3 3 [⟨A6, 4, c6, le4 q⟩, ⟨some ⟨g8, 0, none⟩, 4, 4, le4 sm⟩, ⟨A5, q, c5, bodyF l⟩] w9 hrp9 ?hps (by decide) ?htot).mono ?_
           case hps =>
             intro p hp
             simp only [List.mem_cons, List.not_mem_nil, or_false] at hp
             rcases hp with rfl | rfl | rfl
             · exact ⟨(hr8.below hb9).more hb9.size, (by decide : 4 ≤ 100000000)⟩
             · exact ⟨(hs8.below hb9).more hb9.size, (by decide : 4 ≤ 100000000)⟩
             · exact ⟨(hrb8.below hb9).more hb9.size, by show q ≤ 100000000; omega⟩
           case htot =>
             show (pcat _ 3).length ≤ _
             rw [HPD.out, HFL.out]
             omega
           rintro e w10 ⟨v10, rfl, hown10, hb10⟩
           rw [show (pcat [⟨A6, 4, c6, le4 q⟩, ⟨some ⟨g8, 0, none⟩, 4, 4, le4 sm⟩, ⟨A5, q, c5, bodyF l⟩] ([⟨A6, 4, c6, le4 q⟩, ⟨some ⟨g8, 0, none⟩, 4, 4, le4 sm⟩, ⟨A5, q, c5, bodyF l⟩] : List Part).length) = frameF l from HPD.out _ _ _ _ _ _] at hown10
           have hbw10 := hbw9.trans (hb10.mono hbw9.size)))
        | fail)
      go_ret2
      exact ⟨_, rfl, own_base hown10 hbw9.size, hbw10⟩
end Go.Proofs.Ytbpodmgogokpiaa
