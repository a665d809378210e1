/- The walk of the law DiskMakes (package taborlaw02). Conditions: those of each theorem. -/
import Derived.Test.YtaaaljpnhfmbpaaDkY
import Derived.Test.YtaaaljpnhfmbpaaDkN
namespace Go.Proofs.Ytaaaljpnhfmbpaa
open Go.RowKit Go.Shelf
set_option linter.unusedVariables false

theorem DKd.below {B : Nat} {w w' : World} {g r : Nat} {d : DS} (h : DKd B w g r d) (hb : Below w.heap.size w w') : DKd B w' g r d := DKs.below h hb
theorem run_eql_nilD (w : World) : (binOp .eql 28 (.pointer none) (.pointer none)).run Try.prog w = .ok (.bool true) w := by kernel_rfl
theorem num_any (k : Int) (w : World) : Calls Try.prog 16 #[.int .i64 k] w fun e w' => e = .returned (.int .i64 k) ∧ w = w' := by
  go_enter Try.func16, Try.ntmps16
  go_wp2
  go_ret
  exact ⟨rfl, rfl⟩
theorem Reads.of_own3 {w : World} {base : Nat} {e : TypeId} {A : Option Addr} {n c : Nat} {xs : List Value} (h : w.ownsRow base e 3 (.slice A n c) n xs) : Reads w w.heap.size 3 A n xs := by
  refine ⟨h.1, fun hn => ?_⟩
  obtain ⟨g, cap, hv, _, hlt⟩ := h.form hn
  injection hv with e1 e2 e3
  subst e1
  refine ⟨g, 0, rfl, (h.lt g rfl).2, fun j u hu => ?_⟩
  have := h.cells (g := g) rfl j u hu
  rwa [add_lit] at this
theorem Reads.front3 {w : World} {B n : Nat} {A : Option Addr} {xs : List Value} (h : Reads w B 3 A n xs) {m : Nat} (hm : m ≤ n) : Reads w B 3 A m (xs.take (m * 3)) := by
  have hl := h.1
  refine ⟨by rw [List.length_take]; omega, fun h0 => ?_⟩
  obtain ⟨b, o, e, hb, hc⟩ := h.2 (by omega)
  refine ⟨b, o, e, hb, fun j u hu => hc j u ?_⟩
  rw [List.getElem?_take] at hu
  split at hu
  · exact hu
  · cases hu
theorem afs_append (l m : List AF) : afs (l ++ m) = afs l ++ afs m := by simp [afs]
theorem afs_one (l : List AF) : ∀ u ∈ afs l, u.oneCell' = true := by
  intro u hu
  simp only [afs, List.mem_flatMap] at hu
  obtain ⟨f, _, hu⟩ := hu
  simp at hu
  rcases hu with rfl | rfl | rfl <;> rfl
theorem afs_take (l m : List AF) : (afs (l ++ m)).take (l.length * 3) = afs l := by
  rw [afs_append, ← afs_len, List.take_left]
theorem afs_back {l : List AF} (h : ∀ x ∈ l, OkA x) : afs l = dvs (l.map adat) := by
  rw [dvs_afs, List.map_map]
  congr 1
  conv => lhs; rw [← List.map_id l]
  refine List.map_congr_left fun x hx => ?_
  obtain ⟨_, h2, _⟩ := h x hx
  unfold ofD adat
  simp only [Function.comp_apply, id]
  cases x with
  | mk a b z =>
    simp only at h2 ⊢
    rw [Int.toNat_of_nonneg h2]
theorem own_cap {w : World} {base : Nat} {e : TypeId} {size n c : Nat} {A : Option Addr} {xs : List Value} (h : w.ownsRow base e size (.slice A n c) n xs) : n ≤ c := by
  rcases h.2 with ⟨h1, h2⟩ | ⟨g, cap, cur, hv, _, _, h3, _⟩
  · omega
  · injection hv with e1 e2 e3; omega
theorem own_len3 {w : World} {base : Nat} {e : TypeId} {size n m c : Nat} {A : Option Addr} {xs : List Value} (h : w.ownsRow base e size (.slice A m c) n xs) : m = n := by
  rcases h.2 with ⟨h1, h2⟩ | ⟨g, cap, cur, hv, _⟩
  · injection h1 with _ e2 _; omega
  · injection hv with _ e2 _
/-- a row of bytes, whatever they are -/
def AnyU8 (us : List Value) : Prop := ∀ (j : Nat) (u : Value), us[j]? = some u → ∃ z : Int, u = Value.int .u8 z
theorem bvs_u8 (l : List UInt8) : AnyU8 (bvs l) := fun j u hu => by
  rw [bvs_at] at hu
  cases hx : l[j]? with
  | none => rw [hx] at hu; cases hu
  | some y => rw [hx] at hu; injection hu with hu; exact ⟨_, hu.symm⟩
theorem AnyU8.set {us : List Value} (h : AnyU8 us) (j : Nat) (z : Int) : AnyU8 (us.set j (.int .u8 z)) := fun i u hu => by
  rw [List.getElem?_set] at hu
  split at hu
  · split at hu
    · injection hu with hu; exact ⟨z, hu.symm⟩
    · cases hu
  · exact h i u hu
theorem readB_le {l : FL} (h : ∀ x ∈ l, x.2.1.length ≤ 1048576) (name : ByteArray) : (readB l name).length ≤ 1048576 := by
  unfold readB
  split
  · unfold getL
    cases hf : findL l name with
    | none => exact Nat.zero_le _
    | some x => exact h x (find_mem hf).1
  · decide

set_option maxHeartbeats 16000000 in
set_option maxRecDepth 100000 in
theorem diskMakes_any (A : Option Addr) (n c : Nat) (l : List AF) (name : ByteArray) (w : World) (hr : Reads w w.heap.size 3 A n (afs l)) (hn : n ≤ maxLen) (hs : ∀ x ∈ l, x.name.size ≤ 140737488351232 ∧ x.b.size ≤ 140737488351232) (hnm : name.size ≤ 140737488351232) :
    Calls Try.prog 4 #[.slice A n c, .string name] w fun e w' => e = .returned (.bool true) ∧ Below w.heap.size w w' := by
  have HF := hide (few_any (c := c) w hr hn hs)
  have HL := hide hr.alen
  by_cases hbig : ¬ (wsum l ≤ 3000 ∧ name.size ≤ 3000)
  · go_enter Try.func4, Try.ntmps4
    by_cases h1 : wsum l ≤ 3000
    · have h2 : decide ((3000 : Int) < (name.size : Int)) = true := decide_eq_true (by have : ¬ name.size ≤ 3000 := fun h => hbig ⟨h1, h⟩; omega)
      rw [decide_eq_true h1] at HF
      clear hbig h1
      go_wp2_with (first
        | (go_at_call 13; go_must (refine HF.out.mono ?_; rintro e w1 ⟨rfl, hb1⟩))
        | (go_at_call 12; go_must (refine (works_any _).mono ?_; rintro e w2 ⟨rfl, hb2⟩))
        | fail)
      go_ret
      exact ⟨rfl, hb1.trans (hb2.mono hb1.size)⟩
    · rw [decide_eq_false h1] at HF
      clear hbig h1
      go_wp2_with (first
        | (go_at_call 13; go_must (refine HF.out.mono ?_; rintro e w1 ⟨rfl, hb1⟩))
        | (go_at_call 12; go_must (refine (works_any _).mono ?_; rintro e w2 ⟨rfl, hb2⟩))
        | fail)
      go_ret
      exact ⟨rfl, hb1.trans (hb2.mono hb1.size)⟩
  · have hbig' : wsum l ≤ 3000 ∧ name.size ≤ 3000 := Classical.not_not.1 hbig
    obtain ⟨hw1, hw2⟩ := hbig'
    rw [decide_eq_true hw1] at HF
    have h2 : decide ((3000 : Int) < (name.size : Int)) = false := decide_eq_false (by omega)
    have hn3 : n ≤ 3000 := by have := wsum_len l; rw [HL.out] at this; omega
    have HLL := hide HL.out
    clear hbig hw1 hw2
    go_enter Try.func4, Try.ntmps4
    go_upto_region 3 with (first
      | (go_at_call 13; go_must (refine HF.out.mono ?_; rintro e w1 ⟨rfl, hb1⟩))
      | fail)
    have hown0 : (w1.alloc (.cells #[] 27)).ownsRow w1.heap.size 27 3 (.slice (some ⟨w1.heap.size, 0, none⟩) 0 0) 0 [] := World.ownsRow_made w1 #[] 0 (Nat.le_refl _) (by decide) rfl
    have hr1 := hr.below hb1
    have hr0 : Reads (w1.alloc (.cells #[] 27)) w.heap.size 3 A n (afs l) := hr1.alloc hb1.size _
    have hz1 : 0 + n ≤ maxLen := by unfold maxLen; omega
    have hz2 : (0 + n) * 40 ≤ 140737488355328 := by omega
    have hz3 : n + 1 ≤ maxLen := by unfold maxLen; omega
    have hz4 : (n + 1) * 40 ≤ 140737488355328 := by omega
    go_upto_region 4 with (first
      | (at_builtin
         refine wpList_append (by rfl) (.tmp 22) (.tmp 23) 24 (by rfl) fileD_ok Try.underlying24 hown0 (by rfl) hr0 (by rfl) (afs_one l) hz1 hz2 (by simp) ?_
         intro v2 w2 hown2 hb2 _ _
         rw [Nat.zero_add, List.nil_append] at hown2
         have hown3 := hown2.alloc (.cells #[.string ⟨#[115, 112, 97, 114, 101]⟩, .string ⟨#[]⟩, .int .i64 0] 27)
         have hone := one_reads w2 (⟨#[115, 112, 97, 114, 101]⟩, [], 0)
         have hb12 : Below w1.heap.size w1 w2 := ((Below.refl _ w1).alloc (Nat.le_refl _) _).trans hb2
         have hb13 : Below w1.heap.size w1 (w2.alloc (.cells #[.string ⟨#[115, 112, 97, 114, 101]⟩, .string ⟨#[]⟩, .int .i64 0] 27)) := hb12.alloc hb12.size _)
      | (at_builtin
         have _t := hone
         refine wpList_append (by rfl) (.tmp 24) (.tmp 26) 24 (by rfl) fileD_ok Try.underlying24 hown3 (by rfl) hone (by rfl) (dvs_one _) hz3 hz4 hb13.size ?_
         intro v4 w4 hown4 hb4 _ _
         clear _t hone hown3 hown2
         obtain ⟨g4, c4, rfl, hg4, hc4⟩ := hown4.form (by omega)
         have hnc : (n : Int) + 1 ≤ (c4 : Int) := by have := own_cap hown4; omega
         have hnc0 : (n : Int) ≤ (c4 : Int) := by omega)
      | fail)
    have hm4 : Reads w4 w4.heap.size 3 (some ⟨g4, 0, none⟩) n (afs l) := by
      have := (Reads.of_own3 hown4).front3 (m := n) (by omega)
      rwa [show (afs l ++ dvs [((⟨#[115, 112, 97, 114, 101]⟩ : ByteArray), ([] : List UInt8), 0)]).take (n * 3) = afs l from by rw [← HLL.out, ← afs_len, List.take_left]] at this
    have hsp : w4.cell? ⟨g4, n * 3, none⟩ = some (.string ⟨#[115, 112, 97, 114, 101]⟩) := by
      have := hown4.cells (g := g4) rfl (n * 3) (.string ⟨#[115, 112, 97, 114, 101]⟩) (by
        rw [List.getElem?_append_right (by rw [afs_len, HLL.out]; exact Nat.le_refl _), afs_len, HLL.out, Nat.sub_self]
        rfl)
      rw [add_lit, Nat.zero_add] at this
      exact this
    have hbw4 : Below w.heap.size w w4 := hb1.trans ((hb13.trans hb4).mono hb1.size)
    have hr4 := hr.below hbw4
    have hgl : g4 < w4.heap.size := hc4
    clear hown0 hr0 hr1 hz1 hz2 hz3 hz4 hb2 hb12 hb13 hb4 hown4 hb1
    have HFr := hide (from_any (c := c4) w4 hm4 (by omega) hs)
    have hsz4 := hbw4.size
    by_cases hck : chkF l = 0
    · have HC := hide hck
      go_upto_region 5 with (first
        | (go_at_call 14
           go_must (
           refine HFr.out.mono ?_
           rintro e w5 ⟨hor, hb5⟩
           have hor2 : ∃ g r fs, e = .returned (.tuple #[.pointer (some ⟨g, 0, none⟩), .int .i64 0]) ∧ DK w4.heap.size w5 g r fs 0 false 0 ∧ fs.map fdat = l.map adat := by
             rcases hor with ⟨h0, _⟩ | ⟨_, h⟩
             · exact absurd HC.out h0
             · exact h
           obtain ⟨g, r, fs, rfl, hdk, hfs⟩ := hor2))
        | fail)
      obtain ⟨_, _, hrise, hoks⟩ := chk_ok l _ _ HC.out
      have hd5 : DKd w4.heap.size w5 g r ⟨l.map adat, 0, false, 0⟩ := ⟨fs, hdk, by rw [hfs], hrise⟩
      have HO := hide hoks
      clear hor hdk hfs hrise hoks hck HFr
      have hm5 := hm4.below hb5
      have hr5 := hr4.below (hb5.mono hsz4)
      have hbw5 : Below w.heap.size w w5 := hbw4.trans (hb5.mono hsz4)
      have hsp5 : w5.cell? ⟨g4, n * 3, none⟩ = some (.string ⟨#[115, 112, 97, 114, 101]⟩) := (hb5.cell (p := ⟨g4, n * 3, none⟩) hgl).trans hsp
      have hz45 := hb5.size
      clear hm4 hr4 hbw4 hsp hb5
      have HCk := hide (rcheck_any (c := c) w5 (hr5.more hbw5.size) (by omega) hs)
      rw [HC.out] at HCk
      go_upto_region 6 with (first
        | (go_at_call 15; go_must (refine HCk.out.mono ?_; rintro e w6 ⟨rfl, hb6⟩))
        | fail)
      have hd6 := hd5.below hb6
      have hm6 := hm5.below (hb6.mono hz45)
      have hr6 := hr5.below (hb6.mono hbw5.size)
      have hbw6 := hbw5.trans (hb6.mono hbw5.size)
      have hsp6 : w6.cell? ⟨g4, n * 3, none⟩ = some (.string ⟨#[115, 112, 97, 114, 101]⟩) := (hb6.cell (p := ⟨g4, n * 3, none⟩) (by show g4 < _; omega)).trans hsp5
      have hz46 := Nat.le_trans hz45 hb6.size
      clear hd5 hm5 hr5 hbw5 hsp5 hb6 HCk
      have HSm := hide (rsame_yes (c := c4) (c' := c) w6 (hm6.more hz46) (hr6.more hbw6.size) (by omega))
      have hwn : IntKind.i64.wrap ((n : Int) + 1) = ((n + 1 : Nat) : Int) := by rw [IntWalk.i64_in _ (by omega)]; omega
      have hn1 : ((n + 1 : Nat) : Int) ≤ (c4 : Int) := by omega
      have hn0 : (0 : Int) ≤ ((n + 1 : Nat) : Int) := by omega
      have hnlt : (n : Int) < ((n + 1 : Nat) : Int) := by omega
      have hnn : (0 : Int) ≤ (n : Int) := by omega
      go_upto_region 8 with (first
        | (go_at_call 16; refine (num_any _ _).mono ?_; rintro e w7 ⟨rfl, rfl⟩)
        | (go_at_call 17
           go_must (
           refine HSm.out.mono ?_
           rintro e w7 ⟨rfl, hb7⟩
           have hsp7 : w7.cell? ⟨g4, n * 3, none⟩ = some (.string ⟨#[115, 112, 97, 114, 101]⟩) := (hb7.cell (p := ⟨g4, n * 3, none⟩) (by show g4 < _; omega)).trans hsp6))
        | fail)
      have hd7 := hd6.below hb7
      have hr7 := hr6.below (hb7.mono hbw6.size)
      have hbw7 := hbw6.trans (hb7.mono hbw6.size)
      have hz7 := hbw7.size
      clear hd6 hm6 hr6 hbw6 hsp6 hsp7 hb7 HSm hwn hn1 hn0 hnlt
      have hfl : ∀ x ∈ l.map adat, x.2.1.length ≤ 1048576 := fun x hx => by
        obtain ⟨y, hy, rfl⟩ := List.mem_map.1 hx
        have := (HO.out y hy).2.2.2
        show y.b.data.toList.length ≤ _
        rw [Array.length_toList]
        exact this
      have hFit : Hid (Fit (l.map adat)) := ⟨by rw [List.length_map, HLL.out]; omega, fun x hx => by
        obtain ⟨y, hy, rfl⟩ := List.mem_map.1 hx
        have := (hs y hy).1
        unfold maxLen
        exact Nat.le_trans this (by decide), hfl⟩
      have hRd := hide (read_op (name := name) w7 hd7 hnm hfl)
      have hBle := readB_le hfl name
      have hdv : Reads w7 w7.heap.size 3 A n (dvs (l.map adat)) := by rw [← afs_back HO.out]; exact hr7.more hz7
      have hnmN := hide (rname_any name · hnm)
      clear hfl
      go_upto_region 11 with (first
        | (go_at_call 18
           go_must (
           refine hRd.out.mono ?_
           rintro e w8 ⟨v8, rfl, hown8, hb8⟩
           obtain ⟨A9, m9, c9, rfl⟩ := own_sliceN hown8
           have HM9 : Hid (m9 = (readB (l.map adat) name).length) := own_len3 hown8))
        | fail)
      have hFd := hide (rfind_any (c := c) (name := name) w8 ((hdv.below hb8).more hb8.size) (by omega))
      have hdv8 := hdv.below hb8
      clear hdv hRd
      have hown8 : w8.ownsRow w7.heap.size 5 1 (.slice A9 m9 c9) (readB (l.map adat) name).length (bvs (readB (l.map adat) name)) := hown8
      rw [← HM9.out] at hown8 hBle
      go_upto_region 14 with (first
        | (go_at_call 19
           go_must (
           refine hFd.out.mono ?_
           rintro e w9 ⟨⟨zf, rfl, hzf⟩, rfl⟩))
        | fail)
      have HZF := hide hzf
      clear hzf
      cases hx : nameDS name with
      | false =>
        have hE : readE (l.map adat) name = 2 := by unfold readE; rw [hx]; rfl
        have hm0 : m9 = 0 := by rw [HM9.out]; unfold readB; rw [if_neg (by rw [hE]; decide)]; rfl
        rw [hx] at hnmN
        rw [hE]
        have hmz : ((m9 : Int) != 0) = false := by simp [hm0]
        clear hx hE hm0
        go_upto_region 20 with (first
          | (go_at_call 11; go_must (refine (hnmN.out _).mono ?_; rintro e w20 ⟨rfl, rfl⟩))
          | (go_at_call 16; refine (num_any _ _).mono ?_; rintro e w21 ⟨rfl, rfl⟩)
          | fail)
        go_wp2_with fail
        go_loopw [12] (fun i wr => ∃ (t : Nat) (us : List Value), t ≤ m9 ∧ i = .int .i64 t ∧ wr.ownsRow w7.heap.size 5 1 (.slice A9 m9 c9) m9 us ∧ AnyU8 us ∧ Below w7.heap.size w7 wr) (fun i _ => m9 - (intOf i).toNat)
        case atStart => exact ⟨0, _, by omega, rfl, hown8, bvs_u8 _, hb8⟩
        case round =>
          obtain ⟨t, us, ht, rfl, hown, hu8, hbw⟩ := hrel
          by_cases htn : t < m9
          · have htI : (t : Int) < (m9 : Int) := by omega
            have ht0 : (0 : Int) ≤ (t : Int) := by omega
            have hw2 : IntKind.i64.wrap ((t : Int) + 1) = (t : Int) + 1 := IntWalk.i64_in _ (by omega)
            obtain ⟨g9, k9, hv9, hg9, _⟩ := hown.form (by omega)
            injection hv9 with hv91 _ hv93
            subst hv91
            have hul : us.length = m9 := by have := hown.1; omega
            obtain ⟨u, hu⟩ : ∃ u, us[t]? = some u := ⟨us[t]'(by omega), List.getElem?_eq_getElem _⟩
            obtain ⟨z, rfl⟩ := hu8 t u hu
            have hcell : wr.cell? ⟨g9, t, none⟩ = some (.int .u8 z) := by
              have := hown.cells (g := g9) rfl t _ hu
              rwa [add_lit, Nat.zero_add] at this
            have hfro := own_frozen hown t
            have hown1 := hide (fun z1 : Int => own_set hown htn (.int .u8 z1))
            have hu81 := hide (fun z1 : Int => hu8.set t z1)
            have hbw1 := hide (fun z1 : Int => hbw.setCell (p := ⟨g9, t, none⟩) hg9 (.int .u8 z1))
            clear hul hu hown hu8 hbw
            go_wp2_with fail
            go_roundw
            case rel => exact ⟨t + 1, _, by omega, by simp, hown1.out _, hu81.out _, hbw1.out _⟩
            case measure => simp [intOf]; omega
          · have htI : ¬ (t : Int) < (m9 : Int) := by omega
            have hd9 := hd7.below hbw
            have hr9 := hr7.below (hbw.mono hz7)
            have hbw9 := hbw7.trans (hbw.mono hz7)
            have hz9 := hbw9.size
            have hFi := hide (files_s wr hd9 hFit.out)
            have hSt := hide (fun w hd => steps_s (B := w4.heap.size) (g := g) (r := r) (d := ⟨l.map adat, 0, false, 0⟩) w hd)
            clear hown hu8 hbw
            go_wp2_with (first
              | (go_at_call 20
                 go_must (
                 refine hFi.out.mono ?_
                 rintro e w10 ⟨v10, rfl, hown10, hb10⟩
                 have hl10 : (DS.l ⟨l.map adat, 0, false, 0⟩).length = n := by show (l.map adat).length = n; rw [List.length_map, HLL.out]
                 rw [hl10] at hown10
                 rw [← afs_back HO.out] at hown10
                 obtain ⟨A10, n10, c10, rfl⟩ := own_sliceN hown10
                 have hd10 := hd9.below hb10
                 have hr10 := (hr9.below (hb10.mono hz9)).more (Nat.le_trans hz9 hb10.size)
                 have hbw10 := hbw9.trans (hb10.mono hz9)))
              | (go_at_call 17
                 go_must (
                 obtain rfl : n10 = n := own_len3 hown10
                 refine (rsame_yes (c := c10) (c' := c) w10 (Reads.of_own3 hown10) hr10 (by omega)).mono ?_
                 rintro e w11 ⟨rfl, hb11⟩
                 have hd11 := hd10.below hb11
                 have hbw11 := hbw10.trans (hb11.mono hbw10.size)))
              | (go_at_call 21
                 go_must (
                 refine (hSt.out w11 hd11).mono ?_
                 rintro e w12 ⟨rfl, rfl⟩))
              | (go_at_call 12; go_must (refine (works_any _).mono ?_; rintro e w13 ⟨rfl, hb13⟩))
              | fail)
            go_ret
            exact ⟨rfl, hbw11.trans (hb13.mono hbw11.size)⟩
      | true =>
        rw [hx] at hnmN
        cases hfnd : findL (l.map adat) name with
        | none =>
          have hE : readE (l.map adat) name = 5 := by unfold readE; rw [hx, hfnd]; rfl
          have hm0 : m9 = 0 := by rw [HM9.out]; unfold readB; rw [if_neg (by rw [hE]; decide)]; rfl
          have hzn : zf = -1 := by
            rcases HZF.out with ⟨_, h⟩ | ⟨k, x, _, _, _, _, h⟩
            · exact h
            · rw [hfnd] at h; cases h
          rw [hE]
          subst hzn
          have hmz : ((m9 : Int) != 0) = false := by simp [hm0]
          clear hx hE hm0 hfnd
          go_upto_region 20 with (first
            | (go_at_call 11; go_must (refine (hnmN.out _).mono ?_; rintro e w20 ⟨rfl, rfl⟩))
            | (go_at_call 16; refine (num_any _ _).mono ?_; rintro e w21 ⟨rfl, rfl⟩)
            | fail)
          go_wp2_with fail
          go_loopw [12] (fun i wr => ∃ (t : Nat) (us : List Value), t ≤ m9 ∧ i = .int .i64 t ∧ wr.ownsRow w7.heap.size 5 1 (.slice A9 m9 c9) m9 us ∧ AnyU8 us ∧ Below w7.heap.size w7 wr) (fun i _ => m9 - (intOf i).toNat)
          case atStart => exact ⟨0, _, by omega, rfl, hown8, bvs_u8 _, hb8⟩
          case round =>
            obtain ⟨t, us, ht, rfl, hown, hu8, hbw⟩ := hrel
            by_cases htn : t < m9
            · have htI : (t : Int) < (m9 : Int) := by omega
              have ht0 : (0 : Int) ≤ (t : Int) := by omega
              have hw2 : IntKind.i64.wrap ((t : Int) + 1) = (t : Int) + 1 := IntWalk.i64_in _ (by omega)
              obtain ⟨g9, k9, hv9, hg9, _⟩ := hown.form (by omega)
              injection hv9 with hv91 _ hv93
              subst hv91
              have hul : us.length = m9 := by have := hown.1; omega
              obtain ⟨u, hu⟩ : ∃ u, us[t]? = some u := ⟨us[t]'(by omega), List.getElem?_eq_getElem _⟩
              obtain ⟨z, rfl⟩ := hu8 t u hu
              have hcell : wr.cell? ⟨g9, t, none⟩ = some (.int .u8 z) := by
                have := hown.cells (g := g9) rfl t _ hu
                rwa [add_lit, Nat.zero_add] at this
              have hfro := own_frozen hown t
              have hown1 := hide (fun z1 : Int => own_set hown htn (.int .u8 z1))
              have hu81 := hide (fun z1 : Int => hu8.set t z1)
              have hbw1 := hide (fun z1 : Int => hbw.setCell (p := ⟨g9, t, none⟩) hg9 (.int .u8 z1))
              clear hul hu hown hu8 hbw
              go_wp2_with fail
              go_roundw
              case rel => exact ⟨t + 1, _, by omega, by simp, hown1.out _, hu81.out _, hbw1.out _⟩
              case measure => simp [intOf]; omega
            · have htI : ¬ (t : Int) < (m9 : Int) := by omega
              have hd9 := hd7.below hbw
              have hr9 := hr7.below (hbw.mono hz7)
              have hbw9 := hbw7.trans (hbw.mono hz7)
              have hz9 := hbw9.size
              have hFi := hide (files_s wr hd9 hFit.out)
              have hSt := hide (fun w hd => steps_s (B := w4.heap.size) (g := g) (r := r) (d := ⟨l.map adat, 0, false, 0⟩) w hd)
              clear hown hu8 hbw
              go_wp2_with (first
                | (go_at_call 20
                   go_must (
                   refine hFi.out.mono ?_
                   rintro e w10 ⟨v10, rfl, hown10, hb10⟩
                   have hl10 : (DS.l ⟨l.map adat, 0, false, 0⟩).length = n := by show (l.map adat).length = n; rw [List.length_map, HLL.out]
                   rw [hl10] at hown10
                   rw [← afs_back HO.out] at hown10
                   obtain ⟨A10, n10, c10, rfl⟩ := own_sliceN hown10
                   have hd10 := hd9.below hb10
                   have hr10 := (hr9.below (hb10.mono hz9)).more (Nat.le_trans hz9 hb10.size)
                   have hbw10 := hbw9.trans (hb10.mono hz9)))
                | (go_at_call 17
                   go_must (
                   obtain rfl : n10 = n := own_len3 hown10
                   refine (rsame_yes (c := c10) (c' := c) w10 (Reads.of_own3 hown10) hr10 (by omega)).mono ?_
                   rintro e w11 ⟨rfl, hb11⟩
                   have hd11 := hd10.below hb11
                   have hbw11 := hbw10.trans (hb11.mono hbw10.size)))
                | (go_at_call 21
                   go_must (
                   refine (hSt.out w11 hd11).mono ?_
                   rintro e w12 ⟨rfl, rfl⟩))
                | (go_at_call 12; go_must (refine (works_any _).mono ?_; rintro e w13 ⟨rfl, hb13⟩))
                | fail)
              go_ret
              exact ⟨rfl, hbw11.trans (hb13.mono hbw11.size)⟩
        | some x =>
          have hE : readE (l.map adat) name = 0 := by unfold readE; rw [hx, hfnd]; rfl
          have hB : readB (l.map adat) name = x.2.1 := by
            unfold readB
            rw [if_pos hE]
            unfold getL
            rw [hfnd]
            rfl
          obtain ⟨k, hzk, hkn, hlk⟩ : ∃ k : Nat, zf = k ∧ k < n ∧ (l.map adat)[k]? = some x := by
            rcases HZF.out with ⟨h, _⟩ | ⟨k, y, h1, h2, h3, _, h⟩
            · rw [hfnd] at h; cases h
            · rw [hfnd] at h
              injection h with h
              subst h
              exact ⟨k, h1, h2, h3⟩
          rw [hE]
          subst hzk
          have hk0 : decide ((k : Int) < 0) = false := decide_eq_false (by omega)
          have hk0' : ¬ (k : Int) < 0 := by omega
          have hkI : (k : Int) < (n : Int) := by omega
          have hkz : (0 : Int) ≤ (k : Int) := by omega
          obtain ⟨bq, oq, y, rfl, hbq, hly, k1, k2, k3⟩ := hdv8.dat hkn
          obtain rfl : x = y := by rw [hlk] at hly; injection hly
          have hcv : ∀ q, (convert 35 9 (.slice A9 m9 c9)).run Try.prog (w8.drewN q) = .ok (.string ⟨x.2.1.toArray⟩) (w8.drewN q) := fun q => by
            have := run_bytes_str (P := Try.prog) 35 9 5 Try.underlying35 Try.underlying5 Try.underlying9 (show Reads (w8.drewN q) (w8.drewN q).heap.size 1 A9 m9 (bvs (readB (l.map adat) name)) from Reads.of_own hown8) c9
            rwa [hB] at this
          have hse := str_eq ⟨x.2.1.toArray⟩ ⟨x.2.1.toArray⟩
          rw [decide_eq_true rfl] at hse
          clear hx hE hfnd hlk hly hB
          go_upto_region 12 with (first
            | (go_at_call 11; go_must (refine (hnmN.out _).mono ?_; rintro e w20 ⟨rfl, rfl⟩))
            | (go_at_call 16; refine (num_any _ _).mono ?_; rintro e w21 ⟨rfl, rfl⟩)
            | fail)
          go_quiet ((go_at_call 16; exact Calls.quiet_of_same ((num_any _ _).mono fun e w' ⟨he, hw⟩ => ⟨he, hw.symm⟩)))
          have hown8' : (w8.drewN nq).ownsRow w7.heap.size 5 1 (.slice A9 m9 c9) m9 (bvs (readB (l.map adat) name)) := hown8
          have hb8' : Below w7.heap.size w7 (w8.drewN nq) := below_drewN hb8 _
          clear hown8 hb8 hcv hFd hdv8 hnmN k1 k2 k3
          generalize w8.drewN nq = w8' at *
          have hown8 := hown8'
          clear hown8'
          go_wp2_with fail
          go_loopw [12] (fun i wr => ∃ (t : Nat) (us : List Value), t ≤ m9 ∧ i = .int .i64 t ∧ wr.ownsRow w7.heap.size 5 1 (.slice A9 m9 c9) m9 us ∧ AnyU8 us ∧ Below w7.heap.size w7 wr) (fun i _ => m9 - (intOf i).toNat)
          case atStart => exact ⟨0, _, by omega, rfl, hown8, bvs_u8 _, hb8'⟩
          case round =>
            obtain ⟨t, us, ht, rfl, hown, hu8, hbw⟩ := hrel
            by_cases htn : t < m9
            · have htI : (t : Int) < (m9 : Int) := by omega
              have ht0 : (0 : Int) ≤ (t : Int) := by omega
              have hw2 : IntKind.i64.wrap ((t : Int) + 1) = (t : Int) + 1 := IntWalk.i64_in _ (by omega)
              obtain ⟨g9, k9, hv9, hg9, _⟩ := hown.form (by omega)
              injection hv9 with hv91 _ hv93
              subst hv91
              have hul : us.length = m9 := by have := hown.1; omega
              obtain ⟨u, hu⟩ : ∃ u, us[t]? = some u := ⟨us[t]'(by omega), List.getElem?_eq_getElem _⟩
              obtain ⟨z, rfl⟩ := hu8 t u hu
              have hcell : wr.cell? ⟨g9, t, none⟩ = some (.int .u8 z) := by
                have := hown.cells (g := g9) rfl t _ hu
                rwa [add_lit, Nat.zero_add] at this
              have hfro := own_frozen hown t
              have hown1 := hide (fun z1 : Int => own_set hown htn (.int .u8 z1))
              have hu81 := hide (fun z1 : Int => hu8.set t z1)
              have hbw1 := hide (fun z1 : Int => hbw.setCell (p := ⟨g9, t, none⟩) hg9 (.int .u8 z1))
              clear hul hu hown hu8 hbw
              go_wp2_with fail
              go_roundw
              case rel => exact ⟨t + 1, _, by omega, by simp, hown1.out _, hu81.out _, hbw1.out _⟩
              case measure => simp [intOf]; omega
            · have htI : ¬ (t : Int) < (m9 : Int) := by omega
              have hd9 := hd7.below hbw
              have hr9 := hr7.below (hbw.mono hz7)
              have hbw9 := hbw7.trans (hbw.mono hz7)
              have hz9 := hbw9.size
              have hFi := hide (files_s wr hd9 hFit.out)
              have hSt := hide (fun w hd => steps_s (B := w4.heap.size) (g := g) (r := r) (d := ⟨l.map adat, 0, false, 0⟩) w hd)
              clear hown hu8 hbw
              go_wp2_with (first
                | (go_at_call 20
                   go_must (
                   refine hFi.out.mono ?_
                   rintro e w10 ⟨v10, rfl, hown10, hb10⟩
                   have hl10 : (DS.l ⟨l.map adat, 0, false, 0⟩).length = n := by show (l.map adat).length = n; rw [List.length_map, HLL.out]
                   rw [hl10] at hown10
                   rw [← afs_back HO.out] at hown10
                   obtain ⟨A10, n10, c10, rfl⟩ := own_sliceN hown10
                   have hd10 := hd9.below hb10
                   have hr10 := (hr9.below (hb10.mono hz9)).more (Nat.le_trans hz9 hb10.size)
                   have hbw10 := hbw9.trans (hb10.mono hz9)))
                | (go_at_call 17
                   go_must (
                   obtain rfl : n10 = n := own_len3 hown10
                   refine (rsame_yes (c := c10) (c' := c) w10 (Reads.of_own3 hown10) hr10 (by omega)).mono ?_
                   rintro e w11 ⟨rfl, hb11⟩
                   have hd11 := hd10.below hb11
                   have hbw11 := hbw10.trans (hb11.mono hbw10.size)))
                | (go_at_call 21
                   go_must (
                   refine (hSt.out w11 hd11).mono ?_
                   rintro e w12 ⟨rfl, rfl⟩))
                | (go_at_call 12; go_must (refine (works_any _).mono ?_; rintro e w13 ⟨rfl, hb13⟩))
                | fail)
              go_ret
              exact ⟨rfl, hbw11.trans (hb13.mono hbw11.size)⟩
    · obtain ⟨Z, hZ⟩ : ∃ Z, Z = chkF l := ⟨_, rfl⟩
      rw [← hZ] at hck HFr
      have HCk0 := fun (w : World) (hr : Reads w w.heap.size 3 A n (afs l)) => rcheck_any (c := c) w hr (by omega) hs
      rw [← hZ] at HCk0
      have HCK := hide HCk0
      have HC := hide hck
      have hZ0 : (Z != 0) = true := by simpa using hck
      have hZZ : (Z != Z) = false := by simp
      clear hck hZ HCk0
      go_upto_region 5 with (first
        | (go_at_call 14
           go_must (
           refine HFr.out.mono ?_
           rintro e w5 ⟨hor, hb5⟩
           have he : e = .returned (.tuple #[.pointer none, .int .i64 Z]) := by
             rcases hor with ⟨_, h⟩ | ⟨h, _⟩
             · exact h
             · exact absurd h HC.out
           subst he))
        | fail)
      clear hor HFr
      have hm5 := hm4.below hb5
      have hr5 := hr4.below (hb5.mono hsz4)
      have hbw5 : Below w.heap.size w w5 := hbw4.trans (hb5.mono hsz4)
      have hsp5 : w5.cell? ⟨g4, n * 3, none⟩ = some (.string ⟨#[115, 112, 97, 114, 101]⟩) := (hb5.cell (p := ⟨g4, n * 3, none⟩) hgl).trans hsp
      have hz45 := hb5.size
      clear hm4 hr4 hbw4 hsp hb5
      have hrr := hr5.more hbw5.size
      go_upto_region 6 with (first
        | (go_at_call 15; go_must (refine (HCK.out w5 hrr).mono ?_; rintro e w6 ⟨rfl, hb6⟩))
        | fail)
      have hm6 := hm5.below (hb6.mono hz45)
      have hr6 := hr5.below (hb6.mono hbw5.size)
      have hbw6 := hbw5.trans (hb6.mono hbw5.size)
      have hsp6 : w6.cell? ⟨g4, n * 3, none⟩ = some (.string ⟨#[115, 112, 97, 114, 101]⟩) := (hb6.cell (p := ⟨g4, n * 3, none⟩) (by show g4 < _; omega)).trans hsp5
      have hz46 := Nat.le_trans hz45 hb6.size
      clear hm5 hr5 hbw5 hsp5 hb6 HCK hrr
      have HSm := hide (rsame_yes (c := c4) (c' := c) w6 (hm6.more hz46) (hr6.more hbw6.size) (by omega))
      have hwn : IntKind.i64.wrap ((n : Int) + 1) = ((n + 1 : Nat) : Int) := by rw [IntWalk.i64_in _ (by omega)]; omega
      have hn1 : ((n + 1 : Nat) : Int) ≤ (c4 : Int) := by omega
      have hn0 : (0 : Int) ≤ ((n + 1 : Nat) : Int) := by omega
      have hnlt : (n : Int) < ((n + 1 : Nat) : Int) := by omega
      have hnn : (0 : Int) ≤ (n : Int) := by omega
      have heq := fun w => run_eql_nilD w
      go_wp2_with (first
        | (go_at_call 16; refine (num_any _ _).mono ?_; rintro e w7 ⟨rfl, rfl⟩)
        | (go_at_call 17
           go_must (
           refine HSm.out.mono ?_
           rintro e w7 ⟨rfl, hb7⟩
           have hsp7 : w7.cell? ⟨g4, n * 3, none⟩ = some (.string ⟨#[115, 112, 97, 114, 101]⟩) := (hb7.cell (p := ⟨g4, n * 3, none⟩) (by show g4 < _; omega)).trans hsp6
           have hbw7 := hbw6.trans (hb7.mono hbw6.size)))
        | (go_at_call 12; go_must (refine (works_any _).mono ?_; rintro e w13 ⟨rfl, hb13⟩))
        | fail)
      go_ret
      exact ⟨rfl, hbw7.trans (hb13.mono hbw7.size)⟩
end Go.Proofs.Ytaaaljpnhfmbpaa
