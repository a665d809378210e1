/- Files as an argument; the walk of From (package disk). Conditions: those of each theorem. -/
import Derived.Test.YtaaaljpnhfmbpaaDkT
import Derived.Deep.RegionHeld3
import Derived.Test.YtaaaljpnhfmbpaaStep
import Derived.WalkMore
namespace Go.Proofs.Ytaaaljpnhfmbpaa
open Go.RowKit Go.Shelf
set_option linter.unusedVariables false
set_option linter.unusedSimpArgs false

/-- a file as a caller gives it -/
structure AF where
  name : ByteArray
  b : ByteArray
  sy : Int
def afs (l : List AF) : List Value := l.flatMap fun f => [.string f.name, .string f.b, .int .i64 f.sy]
theorem afs_len (l : List AF) : (afs l).length = l.length * 3 := by
  unfold afs
  induction l with
  | nil => rfl
  | cons f l ih => rw [List.flatMap_cons, List.length_append, ih, List.length_cons]; simp; omega
theorem afs_at : ∀ (l : List AF) (k : Nat) (x : AF), l[k]? = some x → (afs l)[k * 3]? = some (.string x.name) ∧ (afs l)[k * 3 + 1]? = some (.string x.b) ∧ (afs l)[k * 3 + 2]? = some (.int .i64 x.sy)
  | [], k, x, h => by simp at h
  | f :: l, 0, x, h => by
    simp at h
    subst h
    exact ⟨rfl, rfl, rfl⟩
  | f :: l, k + 1, x, h => by
    simp at h
    have := afs_at l k x h
    unfold afs at this ⊢
    rw [List.flatMap_cons, show (k + 1) * 3 = 3 + k * 3 by omega, show 3 + k * 3 + 1 = 3 + (k * 3 + 1) by omega, show 3 + k * 3 + 2 = 3 + (k * 3 + 2) by omega]
    rw [List.getElem?_append_right (by simp), List.getElem?_append_right (by simp), List.getElem?_append_right (by simp)]
    simpa using this
theorem Reads.alen {w : World} {B n : Nat} {A : Option Addr} {l : List AF} (h : Reads w B 3 A n (afs l)) : l.length = n := by
  have := h.1
  rw [afs_len] at this
  omega
theorem Reads.file {w : World} {B n : Nat} {A : Option Addr} {l : List AF} {k : Nat} (h : Reads w B 3 A n (afs l)) (hk : k < n) : ∃ b o x, A = some ⟨b, o, none⟩ ∧ b < B ∧ l[k]? = some x ∧ w.cell? ⟨b, o + k * 3, none⟩ = some (.string x.name) ∧ w.cell? ⟨b, o + k * 3 + 1, none⟩ = some (.string x.b) ∧ w.cell? ⟨b, o + k * 3 + 2, none⟩ = some (.int .i64 x.sy) := by
  have hl := h.alen
  obtain ⟨b, o, e, hb, hc⟩ := h.2 (by omega)
  obtain ⟨x, hx⟩ : ∃ x, l[k]? = some x := ⟨l[k]'(by omega), List.getElem?_eq_getElem _⟩
  obtain ⟨h1, h2, h3⟩ := afs_at l k x hx
  exact ⟨b, o, x, e, hb, hx, hc _ _ h1, by rw [Nat.add_assoc]; exact hc _ _ h2, by rw [Nat.add_assoc]; exact hc _ _ h3⟩

abbrev ltS (a b : ByteArray) : Bool := Op.bytesLess a.toList b.toList
abbrev leS (a b : ByteArray) : Bool := Op.bytesLess a.toList b.toList || a.toList == b.toList
/-- what is wrong with a file, behind the one of name 'last' -/
def badA (last : ByteArray) (x : AF) : Bool := !nameDS x.name || leS x.name last || decide (x.sy < 0) || decide ((x.b.size : Int) < x.sy)
def chk : ByteArray → Bool → List AF → Int
  | _, lg, [] => if lg then 3 else 0
  | last, lg, x :: r => if badA last x then 2 else chk x.name (lg || decide (1048576 < x.b.size)) r
def chkF (l : List AF) : Int := chk ⟨#[]⟩ false l
def adat (x : AF) : FD := (x.name, x.b.data.toList, x.sy.toNat)
theorem chk_cases (last : ByteArray) (lg : Bool) (l : List AF) : chk last lg l = 0 ∨ chk last lg l = 2 ∨ chk last lg l = 3 := by
  induction l generalizing last lg with
  | nil => unfold chk; cases lg <;> simp
  | cons x r ih =>
    unfold chk
    split
    · simp
    · exact ih _ _

theorem le_less {a b : ByteArray} (h : leS a b = false) : NLt b a := by
  unfold leS at h
  rw [Bool.or_eq_false_iff, less_eq] at h
  obtain ⟨h1, h2⟩ := h
  rcases NLt.tri a b with e | e | e
  · rw [decide_eq_true e] at h1; cases h1
  · subst e; simp at h2
  · exact e
/-- what a file that is fit has -/
def OkA (x : AF) : Prop := nameDS x.name = true ∧ 0 ≤ x.sy ∧ x.sy ≤ x.b.size ∧ x.b.size ≤ 1048576
theorem chk_ok : ∀ (l : List AF) (la : ByteArray) (lg : Bool), chk la lg l = 0 → lg = false ∧ (∀ x ∈ l, NLt la x.name) ∧ Rise (l.map adat) ∧ ∀ x ∈ l, OkA x
  | [], la, lg, h => by
    refine ⟨?_, (fun x hx => by cases hx), .nil, (fun x hx => by cases hx)⟩
    cases lg with
    | false => rfl
    | true => simp [chk] at h
  | x :: l, la, lg, h => by
    unfold chk at h
    cases hb : badA la x with
    | true => rw [hb, if_pos rfl] at h; exact absurd h (by decide)
    | false =>
      rw [hb, if_neg (by decide)] at h
      obtain ⟨h1, h2, h3, h4⟩ := chk_ok l _ _ h
      unfold badA at hb
      simp only [Bool.or_eq_false_iff, Bool.not_eq_false', decide_eq_false_iff_not] at hb h1
      obtain ⟨⟨⟨b1, b2⟩, b3⟩, b4⟩ := hb
      have hlt := le_less (show leS _ _ = false by unfold leS; rw [Bool.or_eq_false_iff]; exact b2)
      refine ⟨h1.1, fun y hy => ?_, List.pairwise_cons.2 ⟨fun y hy => ?_, h3⟩, fun y hy => ?_⟩
      · rcases List.mem_cons.1 hy with rfl | hy
        · exact hlt
        · exact hlt.trans (h2 y hy)
      · obtain ⟨z, hz, rfl⟩ := List.mem_map.1 hy
        exact h2 z hz
      · rcases List.mem_cons.1 hy with rfl | hy
        · exact ⟨b1, by omega, by omega, by omega⟩
        · exact h4 y hy

set_option maxHeartbeats 8000000 in
set_option maxRecDepth 20000 in
theorem from_any {n c : Nat} {A : Option Addr} {l : List AF} (w : World) (hr : Reads w w.heap.size 3 A n (afs l)) (hn : n ≤ 100000) (hs : ∀ x ∈ l, x.name.size ≤ 140737488351232 ∧ x.b.size ≤ 140737488351232) :
    Calls Try.prog 14 #[.slice A n c] w fun e w' => ((chkF l ≠ 0 ∧ e = .returned (.tuple #[.pointer none, .int .i64 (chkF l)])) ∨ (chkF l = 0 ∧ ∃ g r fs, e = .returned (.tuple #[.pointer (some ⟨g, 0, none⟩), .int .i64 0]) ∧ DK w.heap.size w' g r fs 0 false 0 ∧ fs.map fdat = l.map adat)) ∧ Below w.heap.size w w' := by
  have HL := hide hr.alen
  go_enter Try.func14, Try.ntmps14
  go_wp2
  go_step3
  go_wp2
  go_step3
  go_wp2
  go_loopw [4, 5, 13] (fun e last i wr => ∃ (t : Nat) (lg : Bool) (E : Int) (la : ByteArray), t ≤ n ∧ i = .int .i64 t ∧ e = .int .i64 E ∧ E = (if lg then 3 else 0) ∧ last = .string la ∧ Below w.heap.size w wr ∧ chkF l = chk la lg (l.drop t)) (fun _ _ i _ => n - (intOf i).toNat)
  case atStart => exact ⟨0, false, 0, ⟨#[]⟩, by omega, rfl, rfl, rfl, rfl, Below.refl _ _, rfl⟩
  case round =>
    obtain ⟨t, lg, E, la, ht, rfl, rfl, hE, rfl, hbw, hck⟩ := hrel
    have HE := hide hE
    have HC := hide hck
    clear hck hE
    by_cases htn : t < n
    · have htI : (t : Int) < (n : Int) := by omega
      have ht0 : (0 : Int) ≤ (t : Int) := by omega
      have hw2 : IntKind.i64.wrap ((t : Int) + 1) = (t : Int) + 1 := IntWalk.i64_in _ (by omega)
      obtain ⟨b, o, x, rfl, hb, hlx, k1, k2, k3⟩ := (hr.below hbw).file htn
      have hxs := hs x (List.mem_of_getElem? hlx)
      have hdr : Hid (l.drop t = x :: l.drop (t + 1)) := by
        show _ = _
        have hlt := (List.getElem?_eq_some_iff.1 hlx).1
        rw [List.drop_eq_getElem_cons hlt]
        congr 1
        exact (List.getElem?_eq_some_iff.1 hlx).2
      have HC2 : Hid (chkF l = if badA la x then 2 else chk x.name (lg || decide (1048576 < x.b.size)) (l.drop (t + 1))) := by
        show _ = _
        rw [HC.out, hdr.out]
        rfl
      have HN := hide (fun w => name_any x.name w hxs.1)
      have hF0 : True := trivial
      have hF := Blk.new wr 27 #[.string x.name, .string x.b, .int .i64 x.sy]
      have hbF : Below w.heap.size w (wr.alloc (.cells #[.string x.name, .string x.b, .int .i64 x.sy] 27)) := hbw.alloc hbw.size _
      clear hlx hs hr hdr HC
      cases hx : nameDS x.name with
      | false =>
        rw [hx] at HN
        have HX := hide hx
        clear hx
        have HB : Hid (badA la x = true) := by show _ = _; unfold badA; simp [HX.out]
        clear hF0
        go_wp2_with (first
                    | (go_at_call 10
                       go_must (
                       refine (HN.out _).mono ?_
                       rintro e w1 ⟨rfl, hb1⟩
                       have hbw1 := hbF.trans (hb1.mono hbF.size)
                       have hF1 := hF.below hb1 hF.lt
                       have f0 := hF1.cell 0
                       rw [show (#[Value.string x.name, .string x.b, .int .i64 x.sy] : Array Value)[0]? = some (.string x.name) from rfl] at f0
                       have f1 := hF1.cell 1
                       rw [show (#[Value.string x.name, .string x.b, .int .i64 x.sy] : Array Value)[1]? = some (.string x.b) from rfl] at f1
                       have f2 := hF1.cell 2
                       rw [show (#[Value.string x.name, .string x.b, .int .i64 x.sy] : Array Value)[2]? = some (.int .i64 x.sy) from rfl] at f2))
                    | fail)
        rw [Exit.noGoto_ret]
        go_ret2
        refine ⟨.inl ⟨?_, ?_⟩, hbw1⟩
        · rw [HC2.out, if_pos HB.out]; decide
        · rw [HC2.out, if_pos HB.out]; rfl
      | true =>
        rw [hx] at HN
        have HX := hide hx
        clear hx
        cases h2 : (Op.bytesLess x.name.toList la.toList || x.name.toList == la.toList) with
        | true =>
          have HB : Hid (badA la x = true) := by show _ = _; unfold badA; simp [HX.out, leS, h2]
          clear hF0
          go_wp2_with (first
                      | (go_at_call 10
                         go_must (
                         refine (HN.out _).mono ?_
                         rintro e w1 ⟨rfl, hb1⟩
                         have hbw1 := hbF.trans (hb1.mono hbF.size)
                         have hF1 := hF.below hb1 hF.lt
                         have f0 := hF1.cell 0
                         rw [show (#[Value.string x.name, .string x.b, .int .i64 x.sy] : Array Value)[0]? = some (.string x.name) from rfl] at f0
                         have f1 := hF1.cell 1
                         rw [show (#[Value.string x.name, .string x.b, .int .i64 x.sy] : Array Value)[1]? = some (.string x.b) from rfl] at f1
                         have f2 := hF1.cell 2
                         rw [show (#[Value.string x.name, .string x.b, .int .i64 x.sy] : Array Value)[2]? = some (.int .i64 x.sy) from rfl] at f2))
                      | fail)
          rw [Exit.noGoto_ret]
          go_ret2
          refine ⟨.inl ⟨?_, ?_⟩, hbw1⟩
          · rw [HC2.out, if_pos HB.out]; decide
          · rw [HC2.out, if_pos HB.out]; rfl
        | false =>
          have H2 : Hid (leS x.name la = false) := h2
          by_cases h3 : x.sy < 0
          · have d3 : decide (x.sy < 0) = true := decide_eq_true h3
            have HB : Hid (badA la x = true) := by show _ = _; unfold badA; simp [h3]
            clear hF0
            go_wp2_with (first
                        | (go_at_call 10
                           go_must (
                           refine (HN.out _).mono ?_
                           rintro e w1 ⟨rfl, hb1⟩
                           have hbw1 := hbF.trans (hb1.mono hbF.size)
                           have hF1 := hF.below hb1 hF.lt
                           have f0 := hF1.cell 0
                           rw [show (#[Value.string x.name, .string x.b, .int .i64 x.sy] : Array Value)[0]? = some (.string x.name) from rfl] at f0
                           have f1 := hF1.cell 1
                           rw [show (#[Value.string x.name, .string x.b, .int .i64 x.sy] : Array Value)[1]? = some (.string x.b) from rfl] at f1
                           have f2 := hF1.cell 2
                           rw [show (#[Value.string x.name, .string x.b, .int .i64 x.sy] : Array Value)[2]? = some (.int .i64 x.sy) from rfl] at f2))
                        | fail)
            rw [Exit.noGoto_ret]
            go_ret2
            refine ⟨.inl ⟨?_, ?_⟩, hbw1⟩
            · rw [HC2.out, if_pos HB.out]; decide
            · rw [HC2.out, if_pos HB.out]; rfl
          · have d3 : decide (x.sy < 0) = false := decide_eq_false h3
            by_cases h4 : (x.b.size : Int) < x.sy
            · have d4 : decide ((x.b.size : Int) < x.sy) = true := decide_eq_true h4
              have HB : Hid (badA la x = true) := by show _ = _; unfold badA; simp [h4]
              clear hF0
              go_wp2_with (first
                          | (go_at_call 10
                             go_must (
                             refine (HN.out _).mono ?_
                             rintro e w1 ⟨rfl, hb1⟩
                             have hbw1 := hbF.trans (hb1.mono hbF.size)
                             have hF1 := hF.below hb1 hF.lt
                             have f0 := hF1.cell 0
                             rw [show (#[Value.string x.name, .string x.b, .int .i64 x.sy] : Array Value)[0]? = some (.string x.name) from rfl] at f0
                             have f1 := hF1.cell 1
                             rw [show (#[Value.string x.name, .string x.b, .int .i64 x.sy] : Array Value)[1]? = some (.string x.b) from rfl] at f1
                             have f2 := hF1.cell 2
                             rw [show (#[Value.string x.name, .string x.b, .int .i64 x.sy] : Array Value)[2]? = some (.int .i64 x.sy) from rfl] at f2))
                          | fail)
              rw [Exit.noGoto_ret]
              go_ret2
              refine ⟨.inl ⟨?_, ?_⟩, hbw1⟩
              · rw [HC2.out, if_pos HB.out]; decide
              · rw [HC2.out, if_pos HB.out]; rfl
            · have d4 : decide ((x.b.size : Int) < x.sy) = false := decide_eq_false h4
              by_cases h5 : 1048576 < x.b.size
              · have d5 : decide ((1048576 : Int) < (x.b.size : Int)) = true := decide_eq_true (by omega)
                have HB : Hid (badA la x = false) := by show _ = _; unfold badA; rw [HX.out, H2.out]; simp [h3, h4]
                have HC3 : Hid (chkF l = chk x.name true (l.drop (t + 1))) := by
                  show _ = _
                  rw [HC2.out, HB.out, if_neg (by decide)]
                  congr 1
                  rw [decide_eq_true h5, Bool.or_true]
                clear HC2 hF0
                go_wp2_with (first
                            | (go_at_call 10
                               go_must (
                               refine (HN.out _).mono ?_
                               rintro e w1 ⟨rfl, hb1⟩
                               have hbw1 := hbF.trans (hb1.mono hbF.size)
                               have hF1 := hF.below hb1 hF.lt
                               have f0 := hF1.cell 0
                               rw [show (#[Value.string x.name, .string x.b, .int .i64 x.sy] : Array Value)[0]? = some (.string x.name) from rfl] at f0
                               have f1 := hF1.cell 1
                               rw [show (#[Value.string x.name, .string x.b, .int .i64 x.sy] : Array Value)[1]? = some (.string x.b) from rfl] at f1
                               have f2 := hF1.cell 2
                               rw [show (#[Value.string x.name, .string x.b, .int .i64 x.sy] : Array Value)[2]? = some (.int .i64 x.sy) from rfl] at f2))
                            | fail)
                go_roundw
                case rel => exact ⟨t + 1, true, 3, x.name, by omega, by simp, rfl, by rfl, rfl, hbw1, HC3.out⟩
                case measure => simp [intOf]; omega
              · have d5 : decide ((1048576 : Int) < (x.b.size : Int)) = false := decide_eq_false (by omega)
                have HB : Hid (badA la x = false) := by show _ = _; unfold badA; rw [HX.out, H2.out]; simp [h3, h4]
                have HC3 : Hid (chkF l = chk x.name lg (l.drop (t + 1))) := by
                  show _ = _
                  rw [HC2.out, HB.out, if_neg (by decide)]
                  congr 1
                  rw [decide_eq_false h5, Bool.or_false]
                clear HC2 hF0
                go_wp2_with (first
                            | (go_at_call 10
                               go_must (
                               refine (HN.out _).mono ?_
                               rintro e w1 ⟨rfl, hb1⟩
                               have hbw1 := hbF.trans (hb1.mono hbF.size)
                               have hF1 := hF.below hb1 hF.lt
                               have f0 := hF1.cell 0
                               rw [show (#[Value.string x.name, .string x.b, .int .i64 x.sy] : Array Value)[0]? = some (.string x.name) from rfl] at f0
                               have f1 := hF1.cell 1
                               rw [show (#[Value.string x.name, .string x.b, .int .i64 x.sy] : Array Value)[1]? = some (.string x.b) from rfl] at f1
                               have f2 := hF1.cell 2
                               rw [show (#[Value.string x.name, .string x.b, .int .i64 x.sy] : Array Value)[2]? = some (.int .i64 x.sy) from rfl] at f2))
                            | fail)
                go_roundw
                case rel => exact ⟨t + 1, lg, E, x.name, by omega, by simp, rfl, by exact HE.out, rfl, hbw1, HC3.out⟩
                case measure => simp [intOf]; omega
    · have htI : ¬ (t : Int) < (n : Int) := by omega
      have htn' : t = n := by omega
      have hdn : Hid (l.drop t = []) := List.drop_eq_nil_of_le (by rw [HL.out]; omega)
      have HC2 : Hid (chkF l = E) := by
        show _ = _
        rw [HC.out, hdn.out, HE.out]
        rfl
      clear HC hdn
      cases lg with
      | true =>
        obtain rfl : E = 3 := HE.out
        clear hr
        go_wp2_with fail
        go_ret2
        exact ⟨.inl ⟨by rw [HC2.out]; decide, by rw [HC2.out]; rfl⟩, hbw⟩
      | false =>
        obtain rfl : E = 0 := HE.out
        obtain ⟨_, _, hrise, hoks⟩ := chk_ok l _ _ HC2.out
        have HR := hide hrise
        have HO := hide hoks
        clear hrise hoks
        go_upto_region 14 with (first
          | (go_at_call 31; go_must (refine (dnew_any wr).mono ?_; rintro e w2 ⟨g, r, rfl, hd2, hb2⟩))
          | fail)
        have hd := hd2.base hbw.size
        have hbw2 : Below w.heap.size w w2 := hbw.trans (hb2.mono hbw.size)
        clear hd2 hb2 hbw HE htI htn htn' ht
        go_wp2_with fail
        go_loopw [55] (fun i wr => ∃ (t : Nat) (fs : List FP), t ≤ n ∧ i = .int .i64 t ∧ DK w.heap.size wr g r fs 0 false 0 ∧ fs.map fdat = (l.take t).map adat ∧ Below w.heap.size w wr) (fun i _ => n - (intOf i).toNat)
        case atStart => exact ⟨0, [], by omega, rfl, hd, rfl, hbw2⟩
        case round =>
          obtain ⟨t, fs, ht, rfl, hd, hfs, hbw⟩ := hrel
          have HFS := hide hfs
          clear hfs
          by_cases htn : t < n
          · have htI : (t : Int) < (n : Int) := by omega
            have ht0 : (0 : Int) ≤ (t : Int) := by omega
            have hw2 : IntKind.i64.wrap ((t : Int) + 1) = (t : Int) + 1 := IntWalk.i64_in _ (by omega)
            obtain ⟨b, o, x, rfl, hb, hlx, k1, k2, k3⟩ := (hr.below hbw).file htn
            have HLX := hide hlx
            have hmemx := List.mem_of_getElem? hlx
            obtain ⟨hok1, hok2, hok3, hok4⟩ := HO.out x hmemx
            clear hlx hr
            go_upto_region 17 with (fail)
            have hF := Blk.new wr 27 #[.string x.name, .string x.b, .int .i64 x.sy]
            have hbF : Below wr.heap.size wr (wr.alloc (.cells #[.string x.name, .string x.b, .int .i64 x.sy] 27)) := (Below.refl _ wr).alloc (Nat.le_refl _) _
            have hdF := hd.below hbF
            have hbwF := hbw.trans (hbF.mono hbw.size)
            clear hd hbF k1 k2 k3
            obtain ⟨fb, hfb⟩ : ∃ fb, fb = wr.heap.size := ⟨_, rfl⟩
            rw [← hfb] at hF
            simp only [← hfb]
            generalize wr.alloc (.cells #[.string x.name, .string x.b, .int .i64 x.sy] 27) = W at *
            clear hfb
            obtain ⟨sn, hsn⟩ : ∃ sn : Nat, x.sy = sn := ⟨x.sy.toNat, by omega⟩
            rw [hsn] at hF hok2 hok3
            have HSN := hide hsn
            have q0 : W.cell? ⟨fb, 0, none⟩ = some (.string x.name) := hF.cell 0
            have q1 : W.cell? ⟨fb, 1, none⟩ = some (.string x.b) := hF.cell 1
            have q2 : W.cell? ⟨fb, 2, none⟩ = some (.int .i64 sn) := hF.cell 2
            have q3 : W.cell? ⟨g, 0, none⟩ = some (.map (some r)) := hdF.1.cell 0
            have hcv := run_conv (P := Try.prog) W.drew 9 35 5 x.b Try.underlying9 Try.underlying35 Try.underlying5
            clear hsn
            have hbC : Below W.drew.heap.size W.drew (convW x.b 5 W.drew) := convW_below x.b 5 W.drew
            have hownC := zown_conv x.b 5 W.drew (by unfold maxLen; omega)
            obtain ⟨cc, hcc⟩ : ∃ cc, convV x.b 5 W.drew = .slice (some ⟨W.heap.size, 0, none⟩) x.b.size cc := ⟨_, rfl⟩
            rw [hcc] at hcv hownC
            generalize convW x.b 5 W.drew = V at *
            have hFV := (show Blk W.drew fb 27 _ from hF).below hbC hF.lt
            have hdV := (show DK w.heap.size W.drew g r fs 0 false 0 from hdF).below hbC
            have v0 : V.cell? ⟨fb, 0, none⟩ = some (.string x.name) := hFV.cell 0
            have v1 : V.cell? ⟨fb, 1, none⟩ = some (.string x.b) := hFV.cell 1
            have v2 : V.cell? ⟨fb, 2, none⟩ = some (.int .i64 sn) := hFV.cell 2
            have v3 : V.cell? ⟨g, 0, none⟩ = some (.map (some r)) := hdV.1.cell 0
            have hbV : Below V.heap.size V (V.alloc (.cells #[.slice (some ⟨W.heap.size, 0, none⟩) x.b.size cc, .int .i64 sn] 67)) := (Below.refl _ V).alloc (Nat.le_refl _) _
            have hFU := hFV.below hbV hFV.lt
            have hdU := hdV.below hbV
            have hfU := Blk.new V 67 #[.slice (some ⟨W.heap.size, 0, none⟩) x.b.size cc, .int .i64 sn]
            have u0 : (V.alloc (.cells #[.slice (some ⟨W.heap.size, 0, none⟩) x.b.size cc, .int .i64 sn] 67)).cell? ⟨fb, 0, none⟩ = some (.string x.name) := hFU.cell 0
            have u1 : (V.alloc (.cells #[.slice (some ⟨W.heap.size, 0, none⟩) x.b.size cc, .int .i64 sn] 67)).cell? ⟨fb, 1, none⟩ = some (.string x.b) := hFU.cell 1
            have u2 : (V.alloc (.cells #[.slice (some ⟨W.heap.size, 0, none⟩) x.b.size cc, .int .i64 sn] 67)).cell? ⟨fb, 2, none⟩ = some (.int .i64 sn) := hFU.cell 2
            have u3 : (V.alloc (.cells #[.slice (some ⟨W.heap.size, 0, none⟩) x.b.size cc, .int .i64 sn] 67)).cell? ⟨g, 0, none⟩ = some (.map (some r)) := hdU.1.cell 0
            obtain ⟨o', hu, hms⟩ := Ms.update (P := Try.prog) Try.underlying68 Try.underlying9 hdU.2.2.2.1 x.name (.pointer (some ⟨V.heap.size, 0, none⟩))
            have hFX := hFU.putObj hdU.2.2.2.1 o'
            have hgX := hdU.1.putObj hdU.2.2.2.1 o'
            have x0 : ((V.alloc (.cells #[.slice (some ⟨W.heap.size, 0, none⟩) x.b.size cc, .int .i64 sn] 67)).putObj r o').cell? ⟨fb, 0, none⟩ = some (.string x.name) := hFX.cell 0
            have x1 : ((V.alloc (.cells #[.slice (some ⟨W.heap.size, 0, none⟩) x.b.size cc, .int .i64 sn] 67)).putObj r o').cell? ⟨fb, 1, none⟩ = some (.string x.b) := hFX.cell 1
            have x2 : ((V.alloc (.cells #[.slice (some ⟨W.heap.size, 0, none⟩) x.b.size cc, .int .i64 sn] 67)).putObj r o').cell? ⟨fb, 2, none⟩ = some (.int .i64 sn) := hFX.cell 2
            have x3 : ((V.alloc (.cells #[.slice (some ⟨W.heap.size, 0, none⟩) x.b.size cc, .int .i64 sn] 67)).putObj r o').cell? ⟨g, 0, none⟩ = some (.map (some r)) := hgX.cell 0
            have hrow : FRow w.heap.size (V.alloc (.cells #[.slice (some ⟨W.heap.size, 0, none⟩) x.b.size cc, .int .i64 sn] 67)) ⟨x.name, V.heap.size, some ⟨W.heap.size, 0, none⟩, x.b.size, cc, x.b.data.toList, sn⟩ :=
              ⟨hfU, Nat.le_trans hbwF.size hbC.size, zown_below (zown_base hownC hbwF.size) hbV, by show sn ≤ x.b.size; omega⟩
            have hnm : ∀ y ∈ fs, y.name ≠ x.name := fun y hy e => by
              have h1 : fdat y ∈ (l.take t).map adat := by rw [← HFS.out]; exact List.mem_map.2 ⟨y, hy, rfl⟩
              obtain ⟨z, hz, hze⟩ := List.mem_map.1 h1
              have h2 : (l.take (t + 1)).map adat = (l.take t).map adat ++ [adat x] := by rw [List.take_add_one, HLX.out]; simp
              have h3 : Rise ((l.take (t + 1)).map adat) := by
                rw [List.map_take]
                exact HR.out.sublist (List.take_sublist _ _)
              rw [h2] at h3
              have h4 := (List.pairwise_append.1 h3).2.2 (adat z) (List.mem_map.2 ⟨z, hz, rfl⟩) (adat x) (by simp)
              rw [hze] at h4
              exact NLt.ne h4 e
            have hd7 := hdU.put_new hrow (fun y hy => ⟨by
              have := (hdV.2.2.2.2.1 y hy).1.lt
              show y.p ≠ V.heap.size
              omega, fun k hk1 hk2 => by
              have h1 : k = W.heap.size := by simpa [Value.ownBlock] using hk1.symm
              subst h1
              have := zown_lt (hdF.2.2.2.2.1 y hy).2.2.1 hk2
              exact Nat.lt_irrefl _ this⟩) hnm hms
            have hb7 : Below w.heap.size w ((V.alloc (.cells #[.slice (some ⟨W.heap.size, 0, none⟩) x.b.size cc, .int .i64 sn] 67)).putObj r o') :=
              (((hbwF.drew).trans (hbC.mono hbwF.size)).trans (hbV.mono (Nat.le_trans hbwF.size hbC.size))).trans (below_put hdU.2.2.1)
            have HD7 := hide hd7
            have HB7 := hide hb7
            have hfs7 : Hid ((fs ++ [(⟨x.name, V.heap.size, some ⟨W.heap.size, 0, none⟩, x.b.size, cc, x.b.data.toList, sn⟩ : FP)]).map fdat = (l.take (t + 1)).map adat) := by
              show _ = _
              rw [List.take_add_one, HLX.out, List.map_append, HFS.out, List.map_append]
              show _ ++ [(x.name, x.b.data.toList, sn)] = _ ++ [(x.name, x.b.data.toList, x.sy.toNat)]
              rw [HSN.out]
              rfl
            clear hms hdU hfU hbC hbV hownC hF hdF hFV hdV hFU hcc hFX hgX hrow hnm hd7 hb7
            refine wp_region_held_drew (S := (fun w' => w'.cell? ⟨fb, 0, none⟩ = some (.string x.name) ∧ w'.cell? ⟨fb, 1, none⟩ = some (.string x.b) ∧ w'.cell? ⟨fb, 2, none⟩ = some (.int .i64 sn) ∧ w'.cell? ⟨g, 0, none⟩ = some (.map (some r)))) (by kernel_rfl) ?_ (fun hHeld => ?_)
            · exact ⟨q0, q1, q2, q3⟩
            refine wpAnyH_take (i := 0) (v := ?_) rfl (by kernel_rfl) (by kernel_rfl) (by kernel_rfl) (fun _ _ _ h => h) (Or.inl ⟨by rfl, ?hy⟩) (by assumption) ?_
            case hy => (intro w hSw; (try dsimp only at hSw); go_simp; all_goals with_reducible rfl)
            try simp only [Act.put, List.setIfInBounds_toArray, List.set_cons_zero, List.set_cons_succ]
            refine wpAnyH_take (i := 1) (v := ?_) rfl (by kernel_rfl) (by kernel_rfl) (by kernel_rfl) (fun _ _ _ h => h) (Or.inl ⟨by rfl, ?hy⟩) (by assumption) ?_
            case hy => (intro w hSw; (try dsimp only at hSw); go_simp; all_goals with_reducible rfl)
            try simp only [Act.put, List.setIfInBounds_toArray, List.set_cons_zero, List.set_cons_succ]
            refine wpAnyH_take (i := 2) (v := ?_) rfl (by kernel_rfl) (by kernel_rfl) (by kernel_rfl) (fun _ _ _ h => h) (Or.inl ⟨by rfl, ?hy⟩) (by assumption) ?_
            case hy => (intro w hSw; (try dsimp only at hSw); go_simp; all_goals with_reducible rfl)
            try simp only [Act.put, List.setIfInBounds_toArray, List.set_cons_zero, List.set_cons_succ]
            refine wpAnyH_take (i := 3) (v := ?_) rfl (by kernel_rfl) (by kernel_rfl) (by kernel_rfl) (fun _ _ _ h => h) (Or.inl ⟨by rfl, ?hy⟩) (by assumption) ?_
            case hy => (intro w hSw; (try dsimp only at hSw); go_simp; all_goals with_reducible rfl)
            try simp only [Act.put, List.setIfInBounds_toArray, List.set_cons_zero, List.set_cons_succ]
            refine wpAnyH_take (i := 4) (v := ?_) rfl (by kernel_rfl) (by kernel_rfl) (by kernel_rfl) (fun _ _ _ h => h) (Or.inl ⟨by rfl, ?hy⟩) (by assumption) ?_
            case hy => (intro w hSw; (try dsimp only at hSw); go_simp; all_goals with_reducible rfl)
            try simp only [Act.put, List.setIfInBounds_toArray, List.set_cons_zero, List.set_cons_succ]
            refine wpAnyH_take (i := 5) (v := ?_) rfl (by kernel_rfl) (by kernel_rfl) (by kernel_rfl) (fun _ _ _ h => h) (Or.inl ⟨by rfl, ?hy⟩) (by assumption) ?_
            case hy => (intro w hSw; (try dsimp only at hSw); go_simp; all_goals with_reducible rfl)
            try simp only [Act.put, List.setIfInBounds_toArray, List.set_cons_zero, List.set_cons_succ]
            refine wpAnyH_take (i := 6) (v := ?_) rfl (by kernel_rfl) (by kernel_rfl) (by kernel_rfl) (fun _ _ _ h => h) (Or.inl ⟨by rfl, ?hy⟩) (by assumption) ?_
            case hy => (intro w hSw; (try dsimp only at hSw); go_simp; all_goals with_reducible rfl)
            try simp only [Act.put, List.setIfInBounds_toArray, List.set_cons_zero, List.set_cons_succ]
            refine wpAnyH_take (i := 7) (v := ?_) rfl (by kernel_rfl) (by kernel_rfl) (by kernel_rfl) (fun _ _ _ h => h) (Or.inl ⟨by rfl, ?hy⟩) (by assumption) ?_
            case hy => (intro w hSw; (try dsimp only at hSw); go_simp; all_goals with_reducible rfl)
            try simp only [Act.put, List.setIfInBounds_toArray, List.set_cons_zero, List.set_cons_succ]
            refine wpAnyH_take (i := 9) (v := ?_) rfl (by kernel_rfl) (by kernel_rfl) (by kernel_rfl) (fun _ _ _ h => h) (Or.inl ⟨by rfl, ?hy⟩) (by assumption) ?_
            case hy => (intro w hSw; (try dsimp only at hSw); go_simp; all_goals with_reducible rfl)
            try simp only [Act.put, List.setIfInBounds_toArray, List.set_cons_zero, List.set_cons_succ]
            refine wpAnyH_take (i := 10) (v := ?_) rfl (by kernel_rfl) (by kernel_rfl) (by kernel_rfl) (fun _ _ _ h => h) (Or.inl ⟨by rfl, ?hy⟩) (by assumption) ?_
            case hy => (intro w hSw; (try dsimp only at hSw); go_simp; all_goals with_reducible rfl)
            try simp only [Act.put, List.setIfInBounds_toArray, List.set_cons_zero, List.set_cons_succ]
            refine wpAnyH_ready (rs := [8]) (by kernel_rfl) (by simp) (AllReadyH.cons rfl (fun K hK => ?_) AllReadyH.nil)
            go_simp
            refine hK.out _ _ ?_ (fun hHeld => ?_)
            · (first | exact ⟨v0, v1, v2, v3⟩ | exact ⟨u0, u1, u2, u3⟩ | exact ⟨x0, x1, x2, x3⟩)
            clear hK K
            try simp only [Act.put, List.setIfInBounds_toArray, List.set_cons_zero, List.set_cons_succ]
            refine wpAnyH_take (i := 11) (v := ?_) rfl (by kernel_rfl) (by kernel_rfl) (by kernel_rfl) (fun _ _ _ h => h) (Or.inl ⟨by rfl, ?hy⟩) (by assumption) ?_
            case hy => (intro w hSw; (try dsimp only at hSw); go_simp; all_goals with_reducible rfl)
            try simp only [Act.put, List.setIfInBounds_toArray, List.set_cons_zero, List.set_cons_succ]
            refine wpAnyH_ready (rs := [12]) (by kernel_rfl) (by simp) (AllReadyH.cons rfl (fun K hK => ?_) AllReadyH.nil)
            go_simp
            refine hK.out _ _ ?_ (fun hHeld => ?_)
            · (first | exact ⟨v0, v1, v2, v3⟩ | exact ⟨u0, u1, u2, u3⟩ | exact ⟨x0, x1, x2, x3⟩)
            clear hK K
            try simp only [Act.put, List.setIfInBounds_toArray, List.set_cons_zero, List.set_cons_succ]
            refine wpAnyH_ready (rs := [13]) (by kernel_rfl) (by simp) (AllReadyH.cons rfl (fun K hK => ?_) AllReadyH.nil)
            go_simp
            refine hK.out _ _ ?_ (fun hHeld => ?_)
            · (first | exact ⟨v0, v1, v2, v3⟩ | exact ⟨u0, u1, u2, u3⟩ | exact ⟨x0, x1, x2, x3⟩)
            clear hK K
            try simp only [Act.put, List.setIfInBounds_toArray, List.set_cons_zero, List.set_cons_succ]
            refine wpAnyH_done (by kernel_rfl) ?_ _
            go_wp2_with fail
            go_roundw
            case rel => exact ⟨t + 1, _, by omega, by simp, HD7.out, hfs7.out, HB7.out⟩
            case measure => simp [intOf]; omega
          · have htI : ¬ (t : Int) < (n : Int) := by omega
            have htn' : t = n := by omega
            have hln : Hid ((l.take t).map adat = l.map adat) := by
              show _ = _
              rw [List.take_of_length_le (by rw [HL.out]; omega)]
            go_wp2_with fail
            go_ret2
            exact ⟨.inr ⟨HC2.out, g, r, fs, rfl, hd, by rw [HFS.out, hln.out]⟩, hbw⟩
end Go.Proofs.Ytaaaljpnhfmbpaa
