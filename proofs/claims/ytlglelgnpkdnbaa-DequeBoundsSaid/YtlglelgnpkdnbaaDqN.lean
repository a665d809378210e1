/- What is refused, and a deque that is none (package deque). Conditions: those of each theorem. -/
import Derived.Test.YtlglelgnpkdnbaaDqT
namespace Go.Proofs.Ytlglelgnpkdnbaa
open Go.RowKit Go.Shelf
set_option linter.unusedVariables false
attribute [local go_sem] Oper.semAt_some

theorem long_yes (s : ByteArray) (hs : 1048576 < s.size) (w : World) : Calls Try.prog 39 #[.string s] w fun e w' => e = .returned (.bool true) ∧ w = w' := by
  have h : (1048576 : Int) < (s.size : Int) := by omega
  go_enter Try.func39, Try.ntmps39
  go_wp2_with fail
  go_ret
  exact ⟨rfl, rfl⟩
theorem index_long (A : Option Addr) (n c : Nat) (l : List ByteArray) (w : World) {B : Nat} (hr : Reads w B 1 A n (svs l)) (hn : n ≤ maxLen) (hs : ∃ s ∈ l, 1048576 < s.size) :
    Calls Try.prog 45 #[.slice A n c, .func (.func 39) #[] #[]] w fun e w' => (∃ k : Nat, e = .returned (.int .i64 k)) ∧ w = w' := by
  have hn' : n ≤ 9223372036854775807 := hn
  have HL := hide hr.slen
  have HS := hide hs
  clear hs
  go_enter Try.func45, Try.ntmps45
  go_wp2_with fail
  go_loopw [5, 8] (fun _ i wr => ∃ t : Nat, t ≤ n ∧ i = .int .i64 t ∧ wr = w ∧ ∀ s ∈ l.take t, s.size ≤ 1048576) (fun _ i _ => n - (intOf i).toNat)
  case atStart => exact ⟨0, by omega, rfl, rfl, fun s hs => by simp at hs⟩
  case round =>
    obtain ⟨t, ht, rfl, rfl, hfew⟩ := hrel
    have HF := hide hfew
    clear hfew
    by_cases htn : t < n
    · have htI : (t : Int) < (n : Int) := by omega
      obtain ⟨b, o, s, rfl, hb, hls, hcell⟩ := hr.text htn
      have hw2 : IntKind.i64.wrap ((t : Int) + 1) = (t : Int) + 1 := IntWalk.i64_in _ (by omega)
      by_cases hz : s.size ≤ 1048576
      · have HT : Hid (l.take (t + 1) = l.take t ++ [s]) := by show _ = _; rw [List.take_add_one, hls]; rfl
        go_wp2_with (first
          | (go_at_call 39; refine (long_any s hz wr).mono ?_; rintro e w1 ⟨rfl, rfl⟩)
          | fail)
        go_roundw
        case rel =>
          refine ⟨t + 1, by omega, by simp, by first | rfl | trivial, fun x hx => ?_⟩
          rw [HT.out] at hx
          rcases List.mem_append.1 hx with hx | hx
          · exact HF.out x hx
          · rw [List.mem_singleton.1 hx]; exact hz
        case measure => simp [intOf]; omega
      · go_wp2_with (first
          | (go_at_call 39; refine (long_yes s (by omega) wr).mono ?_; rintro e w1 ⟨rfl, rfl⟩)
          | fail)
        go_ret
        exact ⟨⟨t, rfl⟩, rfl⟩
    · exfalso
      obtain ⟨s, hs1, hs2⟩ := HS.out
      have := HF.out s (by rw [List.take_of_length_le (by rw [HL.out]; omega)]; exact hs1)
      omega
theorem contains_long (A : Option Addr) (n c : Nat) (l : List ByteArray) (w : World) {B : Nat} (hr : Reads w B 1 A n (svs l)) (hn : n ≤ maxLen) (hs : ∃ s ∈ l, 1048576 < s.size) :
    Calls Try.prog 40 #[.slice A n c, .func (.func 39) #[] #[]] w fun e w' => e = .returned (.bool true) ∧ w = w' := by
  go_enter Try.func40, Try.ntmps40
  go_wp2_with (first
    | (go_at_call 45; refine (index_long A n c l w hr hn hs).mono ?_; rintro e w1 ⟨⟨k, rfl⟩, rfl⟩; have hk0 : (0 : Int) ≤ (k : Int) := by omega)
    | fail)
  go_ret
  exact ⟨ret_bool (by simp), rfl⟩
theorem fits_many (k : Nat) (A : Option Addr) (n c : Nat) (w : World) (hk : 65536 < k + n) (hk2 : k + n ≤ 1000000) :
    Calls Try.prog 31 #[.int .i64 k, .slice A n c] w fun e w' => e = .returned (.bool false) ∧ w = w' := by
  have hw : IntKind.i64.wrap ((k : Int) + (n : Int)) = (k : Int) + (n : Int) := IntWalk.i64_in _ (by omega)
  have hle : ¬ (k : Int) + (n : Int) ≤ 65536 := by omega
  go_enter Try.func31, Try.ntmps31
  go_wp2_with fail
  go_ret
  exact ⟨ret_bool (by simp <;> omega), rfl⟩
theorem fits_long (k : Nat) (A : Option Addr) (n c : Nat) (l : List ByteArray) (w : World) {B : Nat} (hr : Reads w B 1 A n (svs l)) (hk : k + n ≤ 65536) (hs : ∃ s ∈ l, 1048576 < s.size) :
    Calls Try.prog 31 #[.int .i64 k, .slice A n c] w fun e w' => e = .returned (.bool false) ∧ w = w' := by
  have hw : IntKind.i64.wrap ((k : Int) + (n : Int)) = (k : Int) + (n : Int) := IntWalk.i64_in _ (by omega)
  have hle : (k : Int) + (n : Int) ≤ 65536 := by omega
  go_enter Try.func31, Try.ntmps31
  go_wp2_with (first
    | (go_at_call 40; refine (contains_long A n c l w hr (by unfold maxLen; omega) hs).mono ?_; rintro e w1 ⟨rfl, rfl⟩)
    | fail)
  go_ret
  exact ⟨rfl, rfl⟩
/-- do texts not fit? -/
def NoFit (w : World) (k : Nat) (A : Option Addr) (n c : Nat) : Prop := Calls Try.prog 31 #[.int .i64 k, .slice A n c] w fun e w' => e = .returned (.bool false) ∧ w = w'
theorem new_no (A : Option Addr) (n c : Nat) (w : World) (h : NoFit w 0 A n c) : Calls Try.prog 15 #[.slice A n c] w fun e w' => e = .returned (.tuple #[.pointer none, .int .i64 3]) ∧ w = w' := by
  have H := hide h
  clear h
  go_enter Try.func15, Try.ntmps15
  go_wp2_with (first
    | (go_at_call 31; refine H.out.mono ?_; rintro e w1 ⟨rfl, rfl⟩)
    | fail)
  go_ret2
  exact ⟨rfl, rfl⟩
theorem push_no {g k : Nat} (v a : Value) (q : Int) (A : Option Addr) (n c : Nat) (w : World) (hB : Blk w g 57 #[v, a, .int .i64 k, .bool true]) (h : NoFit w k A n c) :
    Calls Try.prog 34 #[.pointer (some ⟨g, 0, none⟩), .int .i64 q, .slice A n c] w fun e w' => e = .returned (.int .i64 3) ∧ w = w' := by
  have H := hide h
  have c2 := hB.cell 2
  rw [show (#[v, a, .int .i64 k, .bool true] : Array Value)[2]? = some (.int .i64 k) from rfl] at c2
  clear h
  go_enter Try.func34, Try.ntmps34
  go_wp2_with (first
    | (go_at_call 35; refine (none_any g v a _ w hB).mono ?_; rintro e w1 ⟨rfl, rfl⟩)
    | (go_at_call 31; refine H.out.mono ?_; rintro e w1 ⟨rfl, rfl⟩)
    | fail)
  go_ret
  exact ⟨rfl, rfl⟩
theorem push_nil (q : Int) (v : Value) (w : World) :
    Calls Try.prog 34 #[.pointer none, .int .i64 q, v] w fun e w' => e = .returned (.int .i64 1) ∧ w = w' := by
  go_enter Try.func34, Try.ntmps34
  go_wp2_with (first
    | (go_at_call 35; refine (none_nil w).mono ?_; rintro e w1 ⟨rfl, rfl⟩)
    | fail)
  go_ret
  exact ⟨rfl, rfl⟩
theorem pushBack_no {g k : Nat} (v a : Value) (A : Option Addr) (n c : Nat) (w : World) (hB : Blk w g 57 #[v, a, .int .i64 k, .bool true]) (h : NoFit w k A n c) :
    Calls Try.prog 27 #[.pointer (some ⟨g, 0, none⟩), .slice A n c] w fun e w' => e = .returned (.int .i64 3) ∧ w = w' := by
  have H := hide (push_no v a 1 A n c w hB h)
  clear h
  go_enter Try.func27, Try.ntmps27
  go_wp2_with (first
    | (go_at_call 34; refine H.out.mono ?_; rintro e w1 ⟨rfl, rfl⟩)
    | fail)
  go_ret
  exact ⟨rfl, rfl⟩
theorem pushFront_no {g k : Nat} (v a : Value) (A : Option Addr) (n c : Nat) (w : World) (hB : Blk w g 57 #[v, a, .int .i64 k, .bool true]) (h : NoFit w k A n c) :
    Calls Try.prog 20 #[.pointer (some ⟨g, 0, none⟩), .slice A n c] w fun e w' => e = .returned (.int .i64 3) ∧ w = w' := by
  have H := hide (push_no v a 0 A n c w hB h)
  clear h
  go_enter Try.func20, Try.ntmps20
  go_wp2_with (first
    | (go_at_call 34; refine H.out.mono ?_; rintro e w1 ⟨rfl, rfl⟩)
    | fail)
  go_ret
  exact ⟨rfl, rfl⟩
theorem pushBack_nil (A : Option Addr) (n c : Nat) (w : World) : Calls Try.prog 27 #[.pointer none, .slice A n c] w fun e w' => e = .returned (.int .i64 1) ∧ w = w' := by
  go_enter Try.func27, Try.ntmps27
  go_wp2_with (first
    | (go_at_call 34; refine (push_nil 1 _ w).mono ?_; rintro e w1 ⟨rfl, rfl⟩)
    | fail)
  go_ret
  exact ⟨rfl, rfl⟩
theorem put_no {g : Nat} (v a b : Value) (at_ : Int) (t : ByteArray) (w : World) (hB : Blk w g 57 #[v, a, b, .bool true]) (ht : 1048576 < t.size) :
    Calls Try.prog 26 #[.pointer (some ⟨g, 0, none⟩), .int .i64 at_, .string t] w fun e w' => e = .returned (.int .i64 3) ∧ w = w' := by
  have hI : (1048576 : Int) < (t.size : Int) := by omega
  go_enter Try.func26, Try.ntmps26
  go_wp2_with (first
    | (go_at_call 35; refine (none_any g v a b w hB).mono ?_; rintro e w1 ⟨rfl, rfl⟩)
    | fail)
  go_ret
  exact ⟨rfl, rfl⟩
theorem put_nil (at_ : Int) (t : ByteArray) (w : World) :
    Calls Try.prog 26 #[.pointer none, .int .i64 at_, .string t] w fun e w' => e = .returned (.int .i64 1) ∧ w = w' := by
  go_enter Try.func26, Try.ntmps26
  go_wp2_with (first
    | (go_at_call 35; refine (none_nil w).mono ?_; rintro e w1 ⟨rfl, rfl⟩)
    | fail)
  go_ret
  exact ⟨rfl, rfl⟩
theorem popFront_nil (w : World) : Calls Try.prog 16 #[.pointer none] w fun e w' => e = .returned (.tuple #[.string ⟨#[]⟩, .bool false]) ∧ w = w' := by
  go_enter Try.func16, Try.ntmps16
  go_wp2_with (first
    | (go_at_call 21; refine (len_nil w).mono ?_; rintro e w1 ⟨rfl, rfl⟩)
    | fail)
  go_ret2
  exact ⟨rfl, rfl⟩
theorem at_nil (a : Int) (ha : I64 a) (hok : placeOk 0 a = false) (w : World) : Calls Try.prog 22 #[.pointer none, .int .i64 a] w fun e w' => e = .returned (.tuple #[.string ⟨#[]⟩, .bool false]) ∧ w = w' := by
  have hpl := place_any 0 a ⟨by decide, by decide⟩ ha
  rw [hok] at hpl
  generalize placeA 0 a = pa at *
  go_enter Try.func22, Try.ntmps22
  go_wp2_with (first
    | (go_at_call 21; refine (len_nil w).mono ?_; rintro e w1 ⟨rfl, rfl⟩)
    | (go_at_call 12; refine (hpl _).mono ?_; rintro e w1 ⟨rfl, rfl⟩)
    | fail)
  go_ret2
  exact ⟨rfl, rfl⟩
theorem keep_nil (a b : Value) (w : World) : Calls Try.prog 28 #[.pointer none, a, b] w fun e w' => e = .returned (.tuple #[]) ∧ w = w' := by
  go_enter Try.func28, Try.ntmps28
  go_wp2_with (first
    | (go_at_call 35; refine (none_nil w).mono ?_; rintro e w1 ⟨rfl, rfl⟩)
    | fail)
  go_end0
  exact ⟨rfl, rfl⟩
theorem range_nil (w : World) : Calls Try.prog 23 #[.pointer none, .int .i64 0, .int .i64 (-1)] w fun e w' => e = .returned (.slice none 0 0) ∧ w = w' := by
  have hs := span_any 0 0 (-1) ⟨by decide, by decide⟩ ⟨by decide, by decide⟩ ⟨by decide, by decide⟩
  rw [show spanA 0 0 (-1) = 0 from by decide, show spanB 0 0 (-1) = 0 from by decide] at hs
  go_enter Try.func23, Try.ntmps23
  go_wp2_with (first
    | (go_at_call 21; refine (len_nil w).mono ?_; rintro e w1 ⟨rfl, rfl⟩)
    | (go_at_call 10; refine (hs w).mono ?_; rintro e w1 ⟨rfl, rfl⟩)
    | fail)
  go_loopw [9, 10] (fun v i wr => v = .slice none 0 0 ∧ i = .int .i64 0 ∧ wr = w) (fun _ _ _ => 0)
  case atStart => exact ⟨rfl, rfl, rfl⟩
  case round =>
    obtain ⟨rfl, rfl, rfl⟩ := hrel
    go_wp2_with fail
    go_ret
    exact ⟨rfl, rfl⟩
theorem all_nil (w : World) :
    Calls Try.prog 37 #[.pointer none] w fun e w' => ∃ bx v, e = .returned (.func (.func 43) #[] #[.pointer (some ⟨bx, 0, none⟩)]) ∧ w.heap.size ≤ bx ∧ Blk w' bx 29 #[v] ∧ w'.ownsRow w.heap.size 9 1 v ([] : List ByteArray).length (svs []) ∧ Below w.heap.size w w' := by
  go_enter Try.func37, Try.ntmps37
  go_wp2_with (first
    | (go_at_call 23; refine (range_nil w).mono ?_; rintro e w1 ⟨rfl, rfl⟩)
    | fail)
  go_ret
  exact ⟨w.heap.size, _, rfl, Nat.le_refl _, Blk.new w _ _, World.ownsRow_nil _ _ _ _, (Below.refl _ w).alloc (Nat.le_refl _) _⟩
set_option maxHeartbeats 2000000 in
theorem lawAll_gen {l : List ByteArray} (d : Value) (w : World) (hn : l.length ≤ 65536)
    (HALL : Hid (∀ w1, Below w.heap.size w w1 → Calls Try.prog 37 #[d] w1 fun e w' => ∃ bx v, e = .returned (.func (.func 43) #[] #[.pointer (some ⟨bx, 0, none⟩)]) ∧ w1.heap.size ≤ bx ∧ Blk w' bx 29 #[v] ∧ w'.ownsRow w1.heap.size 9 1 v l.length (svs l) ∧ Below w1.heap.size w1 w')) :
    Calls Try.prog 29 #[d] w fun e w' => ∃ v, e = .returned (.tuple #[v, .bool true]) ∧ w'.ownsRow w.heap.size 9 1 v l.length (svs l) ∧ Below w.heap.size w w' := by
  have heqf := run_eql_func_nil
  refine (callsIn_wide (n := 5)).1 ?_
  refine callsIn_of_wp_marks Try.func29 rfl trivial ?_ rfl
  simp only [Try.ntmps29, List.size_toArray, List.length_cons, List.length_nil, Nat.reduceAdd, Nat.reduceSub, Array.replicate_succ, Array.replicate_zero, List.push_toArray, List.append_toArray, List.nil_append, List.cons_append]
  refine wpIn_wide.2 ?_
  go_upto_region 3 with (fail)
  have hL0 := (Blk.new w 29 #[.slice none 0 0]).alloc (.cells #[.bool true] 4)
  have hF0 := Blk.new (w.alloc (.cells #[.slice none 0 0] 29)) 4 #[.bool true]
  rw [World.size_alloc] at hF0
  have hb0 : Below w.heap.size w ((w.alloc (.cells #[.slice none 0 0] 29)).alloc (.cells #[.bool true] 4)) := ((Below.refl _ w).alloc (Nat.le_refl _) _).alloc (by simp) _
  generalize (w.alloc (.cells #[.slice none 0 0] 29)).alloc (.cells #[.bool true] 4) = w1 at *
  have hF0' := hF0
  go_wp2_with (first
    | (go_at_call 37
       (refine (HALL.out w1 hb0).mono ?_
        rintro e w2 ⟨bx0, v0, rfl, hbx0, hkx0, hox0, hb2⟩
        have hL2 := hL0.below hb2 hL0.lt
        have hF2 := hF0.below hb2 hF0.lt
        have hbw2 := hb0.trans (hb2.mono hb0.size)
        clear hL0 hF0))
    | (go_at_call 37
       go_must (
       refine (HALL.out w2 hbw2).mono ?_
       rintro e w3 ⟨bx, v, rfl, hbx, hkx, hox, hb3⟩
       have hL3 := hL2.below hb3 hL2.lt
       have hF3 := hF2.below hb3 hF2.lt
       have hbw3 := hbw2.trans (hb3.mono hbw2.size)))
    | fail)
  obtain ⟨A, cap, rfl, hcap, hcm⟩ := own_slice hox
  have hbxc := hkx.cell 0
  rw [show (#[Value.slice A l.length cap] : Array Value)[0]? = some (.slice A l.length cap) from rfl] at hbxc
  have hrd := Reads.of_own hox
  have hgL : w.heap.size + 1 < w1.heap.size := hF0'.lt
  have hw2 : w1.heap.size ≤ w2.heap.size := hb2.size
  have hAb : ∀ b o, A = some ⟨b, o, none⟩ → w2.heap.size ≤ b ∧ b < w3.heap.size := fun b o e => by
    subst e
    exact hox.lt b rfl
  clear heqf
  refine (wpIn_wide (n := 5)).1 ?_
  refine range_toldP rfl (by omega) (gf := 43) (lb := #[.pointer (some ⟨bx, 0, none⟩)]) rfl trivial (enters_of Try.func43 (by kernel_rfl) rfl)
    (all1_toldP _ bx A l.length cap l w3 hbxc hkx.lt hrd (by omega)) KeepsS.trans (fun W k o o' _ h hc _ => keepsS_putObj W k o o' h hc) (fun _ => rfl)
    (fun pre W => (∃ v, Blk W w.heap.size 29 #[v] ∧ W.ownsRow w3.heap.size 9 1 v pre.length (svs (pre.map (·.2)))) ∧ Blk W (w.heap.size + 1) 4 #[.bool true] ∧ Below w.heap.size w W ∧ w3.heap.size ≤ W.heap.size) ?own (fun x A B row hs hg hr => hs) ⟨⟨_, hL3, World.ownsRow_nil _ _ _ _⟩, hF3, hbw3, Nat.le_refl _⟩
    (fun x => { tmps := #[d, undef, (.slice none 0 0), (.bool false), (.pointer (some ⟨w.heap.size, 0, none⟩)), (.pointer (some ⟨w.heap.size + 1, 0, none⟩)), (.int .i64 x.1), (.string x.2), d, (.func (.func 43) #[] #[.pointer (some ⟨bx0, 0, none⟩)]), (.bool false), d, (.func (.func 43) #[] #[.pointer (some ⟨bx, 0, none⟩)]), (.int .i64 x.1), (.string x.2), undef, undef, undef, undef, undef, undef, undef, undef, undef, undef, undef, undef, undef], defers := [] }) ?assign ?body ?done
  case own =>
    rintro pre A2 B2 row ⟨⟨v, h1, h2⟩, h3, h4, h5⟩ hgr hr
    have hrow : ∀ r, row = some r → ∃ o, A2.heap[r]? = some o ∧ o.isCells = false := fun r e => (hr r e).2
    exact ⟨⟨v, h1.grownN hgr hrow, own_grownN h2 hgr hrow⟩, h3.grownN hgr hrow, h4.grown hgr h4.size (fun k e => Nat.le_trans hbw3.size (hr k e).1), Nat.le_trans h5 hgr.size⟩
  case assign =>
    intro k x W K hK
    unfold encN
    gi_wp2
    exact hK
  case body =>
    rintro lp pre x W ⟨⟨v, h1, h2⟩, h3, h4, h5⟩ ⟨hx1, hx2, hx3⟩
    have hxn : x.1 < l.length := (List.getElem?_eq_some_iff.1 hx1).1
    rw [hx2] at h2
    obtain ⟨A5, c5, rfl, hc51, hc52⟩ := own_slice h2
    have q1 := h1.cell 0
    rw [show (#[Value.slice A5 x.1 c5] : Array Value)[0]? = some (.slice A5 x.1 c5) from rfl] at q1
    have q3 := h3.cell 0
    rw [show (#[Value.bool true] : Array Value)[0]? = some (.bool true) from rfl] at q3
    have f1 := h1.frozen 0
    have f3 := h3.frozen 0
    have hsF : (Value.slice A5 x.1 c5).ownBlock ≠ some (w.heap.size + 1) := fun e => by have := (h2.lt _ e).1; have := hb3.size; omega
    have hsL : ∀ v' n' (w' : World), w'.ownsRow w3.heap.size 9 1 v' n' (svs (pre.map (·.2)) ++ svs [x.2]) → v'.ownBlock ≠ some w.heap.size := fun v' n' w' ho e => by have := (ho.lt _ e).1; have := hb3.size; omega
    have h2s := own_far h2 (p := ⟨w.heap.size + 1, 0, none⟩) hsF (.bool true)
    have h1s := h1.far (p := ⟨w.heap.size + 1, 0, none⟩) (by simp) (.bool true)
    have h3s : Blk (W.setCell ⟨w.heap.size + 1, 0, none⟩ (.bool true)) (w.heap.size + 1) 4 #[.bool true] := h3.set_ 0 _
    have h4s : Below w.heap.size w (W.setCell ⟨w.heap.size + 1, 0, none⟩ (.bool true)) := h4.setCell (by simp) _
    have hks : KeepsOthers W (W.setCell ⟨w.heap.size + 1, 0, none⟩ (.bool true)) := KeepsOthers.setCell _ _ _
    have hcs : ∀ b o u, w2.heap.size ≤ b → W.cell? ⟨b, o, none⟩ = some u → (W.setCell ⟨w.heap.size + 1, 0, none⟩ (.bool true)).cell? ⟨b, o, none⟩ = some u := fun b o u hb hu => by
      rw [World.cell?_setCell_other W ⟨w.heap.size + 1, 0, none⟩ ⟨b, o, none⟩ _ (fun e => by injection e with e; omega)]; exact hu
    have hzs : (W.setCell ⟨w.heap.size + 1, 0, none⟩ (.bool true)).heap.size = W.heap.size := by simp
    have hone := Reads.one_new (W.setCell ⟨w.heap.size + 1, 0, none⟩ (.bool true)) (.string x.2) 9
    rw [hzs] at hone
    have hw3 : w2.heap.size ≤ w3.heap.size := hb3.size
    gi_wp2_with (first
      | (gi_at_builtin
         go_must (
         refine wpListIn_append rfl (.tmp 22) (.tmp 24) 29 rfl str_ok Try.underlying29 (h2s.alloc _) rfl hone rfl (svs_one [x.2]) (by unfold maxLen; omega) (by omega) (by simp; omega) ?_
         intro v6 w6 hown6 hb6 hg6
         have hL6 := (h1s.alloc (.cells #[.string x.2] 9)).below hb6 (by omega)
         have hF6 := (h3s.alloc (.cells #[.string x.2] 9)).below hb6 (by omega)
         have hk6 := hks.trans ((KeepsOthers.alloc _ (.cells #[.string x.2] 9)).trans (own_others (h2s.alloc _) hg6))
         have hb6w := ((h4s.alloc h4s.size (.cells #[.string x.2] 9))).trans (hb6.mono (by omega))
         have hc6 : ∀ b o u, w2.heap.size ≤ b → b < w3.heap.size → W.cell? ⟨b, o, none⟩ = some u → w6.cell? ⟨b, o, none⟩ = some u := fun b o u hb hb' hu => by
           refine (hb6.cell (p := ⟨b, o, none⟩) hb').trans ?_
           rw [World.cell?_alloc_lt _ _ _ (by simp; omega)]
           exact hcs b o u hb hu
         have hz6 := hb6.size
         rw [World.size_alloc, hzs] at hz6
         have q6 := hL6.cell 0
         rw [show (#[Value.slice A5 x.1 c5] : Array Value)[0]? = some (.slice A5 x.1 c5) from rfl] at q6
         have f6 := hL6.frozen 0
         have hs6 := hsL _ _ _ hown6
         obtain ⟨A6, c6, rfl, hc61, hc62⟩ := own_slice hown6))
      | fail)
    refine ⟨(hk6.trans (KeepsOthers.setCell _ _ _)).from _, ⟨by simp; omega, fun b o u ⟨o2, hA⟩ hu => ?_⟩, ⟨.slice A6 (x.1 + 1) c6, hL6.set_ 0 _, ?_⟩, hF6.far (by simp) _, hb6w.setCell (by simp) _, by simp; omega⟩
    · have hab := hAb b o2 hA
      rw [World.cell?_setCell_other w6 ⟨w.heap.size, 0, none⟩ ⟨b, o, none⟩ _ (fun e => by injection e with e; omega)]
      exact hc6 b o u hab.1 hab.2 hu
    · have := own_far hown6 (p := ⟨w.heap.size, 0, none⟩) hs6 (.slice A6 (x.1 + 1) c6)
      rw [show ([Value.string x.2] : List Value) = svs [x.2] from rfl, ← svs_append] at this
      simpa [List.map_append, hx2] using this
  case done =>
    rintro D xs W hD ⟨hS1, hS2⟩ ⟨⟨v, h1, h2⟩, h3, h4, h5⟩ hK
    rw [hS1, hS2] at h2
    obtain ⟨A5, c5, rfl, hc51, hc52⟩ := own_slice h2
    have q1 := h1.cell 0
    rw [show (#[Value.slice A5 l.length c5] : Array Value)[0]? = some (.slice A5 l.length c5) from rfl] at q1
    have q3 := h3.cell 0
    rw [show (#[Value.bool true] : Array Value)[0]? = some (.bool true) from rfl] at q3
    go_wp2_with fail
    go_quiet (fail)
    have hK' : (W.drewN nq).heap[D]? = some (.deferred (some [])) := hK
    have h2' : (W.drewN nq).ownsRow w3.heap.size 9 1 (.slice A5 l.length c5) l.length (svs l) := h2
    have h4' : Below w.heap.size w (W.drewN nq) := below_drewN h4 _
    generalize W.drewN nq = W' at *
    go_wp2_with fail
    have hgr := grownBy_putObj' W' D (.deferred none)
    have hrw : ∀ r, some D = some r → ∃ o, W'.heap[r]? = some o ∧ o.isCells = false := fun r e => by cases e; exact ⟨_, hK', rfl⟩
    refine ⟨by simp, .inl ⟨_, _, rfl, run_takeDeferred hK', ?_⟩⟩
    exact ⟨_, results_tmp2 rfl _ _ _, _, rfl, own_grownN (own_base h2' hbw3.size) hgr hrw, h4'.grown hgr h4'.size (fun k e => by cases e; have := hbw3.size; omega)⟩
theorem lawAll_nil (w : World) : Calls Try.prog 29 #[.pointer none] w fun e w' => ∃ v, e = .returned (.tuple #[v, .bool true]) ∧ w'.ownsRow w.heap.size 9 1 v ([] : List ByteArray).length (svs []) ∧ Below w.heap.size w w' :=
  lawAll_gen (.pointer none) w (by decide) (hide fun w1 _ => all_nil w1)
end Go.Proofs.Ytlglelgnpkdnbaa
