/- The walks of the document's Refused (package taborref02), one for each kind of step. Conditions: those of each theorem. (Printed by wip/gen_dkra.py.) -/
import Derived.Test.YtaaaljpnhfmbpaaDkZ
import Derived.Laws.ResultCell
namespace Go.Proofs.Ytaaaljpnhfmbpaa
open Go.RowKit
set_option linter.unusedVariables false

def cmdOf : Nat → ByteArray → List UInt8 → Int → Cmd
  | 0, _, bs, _ => .app bs
  | 1, _, _, z => .cut z
  | 2, _, _, _ => .sync
  | 3, tn, _, _ => .ren tn
  | _, _, _, _ => .rem
def leftR (d : DS) : Int := if d.en then d.lf else -1
abbrev rdiskV (A : Option Addr) (n c : Nat) (st lf : Int) : Array Value := #[.slice A n c, .int .i64 st, .int .i64 lf]
abbrev rstepV (wh : Int) (name tn : ByteArray) (M : Option Addr) (m mc : Nat) (z : Int) : Array Value := #[.int .i64 wh, .string name, .string tn, .slice M m mc, .int .i64 z]
/-- a function whose results are a variable of several cells and a slot comes to its end -/
theorem bodyPost_cell_tmpD {P : Program} {fn : Func} {p u : Tmp} {ty : TypeId} (hf : fn.results = #[.cell p ty, .tmp u]) {R : Ending → World → Prop} {a : Act} {w : World} {g : Nat} {t : TypeId} {cs : Array Value} {d : TypeDesc} {x : Value}
    (hp : a.tmps.getD p undef = .pointer (some ⟨g, 0, none⟩)) (hx : a.tmps.getD u undef = x) (hg : Blk w g t cs) (hu : P.underlying ty = some d) (hd : (match d with | .struct _ | .array _ _ => true | _ => false) = true) (hi : (P.info? ty).map (·.size) = some cs.size)
    (hdf : a.defers = []) (hR : R (.returned (.tuple #[.agg cs, x])) w) : bodyPost P fn R .ret a w :=
  bodyPost_ret (by rw [results_cell_tmp hf, hp]; simp only [asAddr, Sem.run_pure, Result.andThen_ok]; rw [run_loadVar_row w g t ty cs (0, 0) d hg hu hd hi, Result.andThen_ok, hx]) hdf hR
theorem arr_append (a b : List UInt8) : (⟨a.toArray⟩ : ByteArray) ++ ⟨b.toArray⟩ = ⟨(a ++ b).toArray⟩ := by
  apply ba_ext
  show (ByteArray.append _ _).data.toList = _
  simp [ByteArray.append]
theorem arr_take (a : List UInt8) (k : Nat) : (⟨a.toArray⟩ : ByteArray).extract 0 k = ⟨(a.take k).toArray⟩ := by
  apply ba_ext
  simp
theorem size_of_arr (l : List UInt8) : (⟨l.toArray⟩ : ByteArray).size = l.length := by
  show l.toArray.size = _
  rw [List.size_toArray]
theorem badL_one (name : ByteArray) : badL [name] = !nameDS name := by unfold badL; simp
theorem badL_two (a b : ByteArray) : badL [a, b] = (!nameDS a || !nameDS b) := by unfold badL; simp
set_option maxHeartbeats 8000000 in
set_option maxRecDepth 20000 in
theorem rref0 {A M : Option Addr} {n c m mc : Nat} {l : FL} {st lf z : Int} {name tn : ByteArray} {bs : List UInt8} (w : World) (hr : Reads w w.heap.size 3 A n (dvs l)) (hn : n ≤ 50000) (hfl : ∀ x ∈ l, x.2.1.length ≤ 1048576) (hs1 : name.size ≤ 140737488351232) (hs2 : tn.size ≤ 140737488351232) (hM : Reads w w.heap.size 1 M m (bvs bs)) (hm : m ≤ 100000000) :
    Calls Try.prog 42 #[.agg (rdiskV A n c st lf), .agg (rstepV 0 name tn M m mc z)] w fun e w' => e = .returned (.int .i64 (refP l name (cmdOf 0 tn bs z))) ∧ Below w.heap.size w w' := by
  have HML : Hid (bs.length = m) := hM.blen
  have hd0 := (Blk.new w 51 (rdiskV A n c st lf)).alloc (.cells (rstepV 0 name tn M m mc z) 48)
  have hs0 := Blk.new (w.alloc (.cells (rdiskV A n c st lf) 51)) 48 (rstepV 0 name tn M m mc z)
  rw [World.size_alloc] at hs0
  have hb0 : Below w.heap.size w ((w.alloc (.cells (rdiskV A n c st lf) 51)).alloc (.cells (rstepV 0 name tn M m mc z) 48)) := ((Below.refl _ w).alloc (Nat.le_refl _) _).alloc (by simp) _
  have hrr := hr.below hb0
  go_enter Try.func42, Try.ntmps42
  go_upto_region 1 with (fail)
  generalize (w.alloc (.cells (rdiskV A n c st lf) 51)).alloc (.cells (rstepV 0 name tn M m mc z) 48) = W at *
  have d0 : W.cell? ⟨w.heap.size, 0, none⟩ = some (.slice A n c) := hd0.cell 0
  have s0 : W.cell? ⟨w.heap.size + 1, 0, none⟩ = some (.int .i64 0) := hs0.cell 0
  have s1 : W.cell? ⟨w.heap.size + 1, 1, none⟩ = some (.string name) := hs0.cell 1
  have s2 : W.cell? ⟨w.heap.size + 1, 2, none⟩ = some (.string tn) := hs0.cell 2
  have s3 : W.cell? ⟨w.heap.size + 1, 3, none⟩ = some (.slice M m mc) := hs0.cell 3
  have s4 : W.cell? ⟨w.heap.size + 1, 4, none⟩ = some (.int .i64 z) := hs0.cell 4
  have HN := hide (rname_any name · hs1)
  have HT := hide (rname_any tn · hs2)
  have HFd := hide (rfind_any (c := c) (name := name) W (hrr.more hb0.size) (by omega))
  have HB0 := hide hb0
  clear hd0 hs0 hr hM hb0
  cases hx : nameDS name with
  | false =>
    have HR : Hid (refP l name (cmdOf 0 tn bs z) = 2) := by show _ = _; unfold refP; rw [if_pos (by show badL [name] = true; rw [badL_one, hx]; rfl)]
    rw [hx] at HN
    clear hx
    go_wp2_with (first
        | (go_at_call_of 11 (Value.string name); refine (HN.out _).mono ?_; rintro e w20 ⟨rfl, rfl⟩)
        | (go_at_call 11; refine (HT.out _).mono ?_; rintro e w21 ⟨rfl, rfl⟩)
        | (go_at_call 19; go_must (refine HFd.out.mono ?_; rintro e w22 ⟨⟨zf, rfl, hzf⟩, rfl⟩; have HZF := hide hzf; clear hzf))
        | fail)
    go_ret
    exact ⟨by rw [HR.out]; rfl, HB0.out⟩
  | true =>
    rw [hx] at HN
    have HG : Hid (badL (Cmd.names name (cmdOf 0 tn bs z)) = false) := by show badL [name] = false; rw [badL_one, hx]; rfl
    clear hx
    go_upto_region 4 with (first
        | (go_at_call_of 11 (Value.string name); refine (HN.out _).mono ?_; rintro e w20 ⟨rfl, rfl⟩)
        | (go_at_call 11; refine (HT.out _).mono ?_; rintro e w21 ⟨rfl, rfl⟩)
        | (go_at_call 19; go_must (refine HFd.out.mono ?_; rintro e w22 ⟨⟨zf, rfl, hzf⟩, rfl⟩; have HZF := hide hzf; clear hzf))
        | fail)
    clear HFd HN HT
    cases hf : findL l name with
    | none =>
      have hzn : zf = -1 := by
        rcases HZF.out with ⟨_, h⟩ | ⟨k, x, _, _, _, _, h⟩
        · exact h
        · rw [hf] at h; cases h
      subst hzn
      have HG2 : Hid (getL l name = (name, [], 0)) := by show _ = _; unfold getL; rw [hf]; rfl
      have HF := hide hf
      clear hf HZF
      have hwq : IntKind.i64.wrap (1048576 - 0) = 1048576 := by decide
      have HR : Hid (refP l name (cmdOf 0 tn bs z) = if 1048576 < m then 3 else 0) := by
        show _ = _
        unfold refP
        rw [HG.out, if_neg (by decide), show (Cmd.th (cmdOf 0 tn bs z) && (findL l name).isNone) = false from rfl, if_neg (by decide), HG2.out]
        unfold cmdOf ownP
        simp only [List.length_nil, Nat.zero_add]
        rw [HML.out]
      by_cases h5 : 1048576 < m
      · have d5 : decide ((1048576 : Int) < (m : Int)) = true := decide_eq_true (by omega)
        have HR2 : Hid (refP l name (cmdOf 0 tn bs z) = 3) := by show _ = _; rw [HR.out, if_pos h5]
        clear h5
        go_wp2_with fail
        go_quiet (fail)
        go_wp2_with fail
        go_ret
        exact ⟨by rw [HR2.out]; rfl, below_drewN HB0.out _⟩
      · have d5 : decide ((1048576 : Int) < (m : Int)) = false := decide_eq_false (by omega)
        have HR2 : Hid (refP l name (cmdOf 0 tn bs z) = 0) := by show _ = _; rw [HR.out, if_neg h5]
        clear h5
        go_wp2_with fail
        go_quiet (fail)
        go_wp2_with fail
        go_ret
        exact ⟨by rw [HR2.out]; rfl, below_drewN HB0.out _⟩
    | some x =>
      obtain ⟨k, hzk, hkn, hlk⟩ : ∃ k : Nat, zf = k ∧ k < n ∧ l[k]? = some x := by
        rcases HZF.out with ⟨h, _⟩ | ⟨k, y, h1, h2, h3, _, h⟩
        · rw [hf] at h; cases h
        · rw [hf] at h; injection h with h; subst h; exact ⟨k, h1, h2, h3⟩
      subst hzk
      have hk0 : decide ((k : Int) < 0) = false := decide_eq_false (by omega)
      have hk0' : decide ((0 : Int) ≤ (k : Int)) = true := decide_eq_true (by omega)
      have hkI : (k : Int) < (n : Int) := by omega
      have hkz : (0 : Int) ≤ (k : Int) := by omega
      obtain ⟨bq, oq, y, rfl, hbq, hly, k1, k2, k3⟩ := hrr.dat hkn
      obtain rfl : x = y := by rw [hlk] at hly; injection hly
      obtain ⟨S, hS⟩ : ∃ S : ByteArray, S = ⟨x.2.1.toArray⟩ := ⟨_, rfl⟩
      rw [← hS] at k2
      have hSz : S.size = x.2.1.length := by rw [hS, size_of_arr]
      have hxl := hfl x (find_mem hf).1
      have HG2 : Hid (getL l name = x) := by show _ = _; unfold getL; rw [hf]; rfl
      have HR : Hid (refP l name (cmdOf 0 tn bs z) = ownP (cmdOf 0 tn bs z) x) := by
        show _ = _
        unfold refP
        rw [HG.out, if_neg (by decide), hf, HG2.out]
        simp
      have HS := hide hSz
      have hSb : S.size ≤ 1048576 := by omega
      clear hf HZF hlk hly hS hfl hxl hSz
      have hwq : IntKind.i64.wrap (1048576 - (S.size : Int)) = 1048576 - (S.size : Int) := IntWalk.i64_in _ (by omega)
      by_cases h5 : 1048576 < S.size + m
      · have d5 : decide ((1048576 : Int) - (S.size : Int) < (m : Int)) = true := decide_eq_true (by omega)
        have HR2 : Hid (refP l name (cmdOf 0 tn bs z) = 3) := by show _ = _; rw [HR.out]; unfold cmdOf ownP; simp only; rw [← HS.out, HML.out, if_pos h5]
        clear h5
        go_wp2_with fail
        go_quiet (fail)
        go_wp2_with fail
        go_ret
        exact ⟨by rw [HR2.out]; rfl, below_drewN HB0.out _⟩
      · have d5 : decide ((1048576 : Int) - (S.size : Int) < (m : Int)) = false := decide_eq_false (by omega)
        have HR2 : Hid (refP l name (cmdOf 0 tn bs z) = 0) := by show _ = _; rw [HR.out]; unfold cmdOf ownP; simp only; rw [← HS.out, HML.out, if_neg h5]
        clear h5
        go_wp2_with fail
        go_quiet (fail)
        go_wp2_with fail
        go_ret
        exact ⟨by rw [HR2.out]; rfl, below_drewN HB0.out _⟩
set_option maxHeartbeats 8000000 in
set_option maxRecDepth 20000 in
theorem rref1 {A M : Option Addr} {n c m mc : Nat} {l : FL} {st lf z : Int} {name tn : ByteArray} {bs : List UInt8} (w : World) (hr : Reads w w.heap.size 3 A n (dvs l)) (hn : n ≤ 50000) (hfl : ∀ x ∈ l, x.2.1.length ≤ 1048576) (hs1 : name.size ≤ 140737488351232) (hs2 : tn.size ≤ 140737488351232) (hM : Reads w w.heap.size 1 M m (bvs bs)) (hm : m ≤ 100000000) :
    Calls Try.prog 42 #[.agg (rdiskV A n c st lf), .agg (rstepV 1 name tn M m mc z)] w fun e w' => e = .returned (.int .i64 (refP l name (cmdOf 1 tn bs z))) ∧ Below w.heap.size w w' := by
  have HML : Hid (bs.length = m) := hM.blen
  have hd0 := (Blk.new w 51 (rdiskV A n c st lf)).alloc (.cells (rstepV 1 name tn M m mc z) 48)
  have hs0 := Blk.new (w.alloc (.cells (rdiskV A n c st lf) 51)) 48 (rstepV 1 name tn M m mc z)
  rw [World.size_alloc] at hs0
  have hb0 : Below w.heap.size w ((w.alloc (.cells (rdiskV A n c st lf) 51)).alloc (.cells (rstepV 1 name tn M m mc z) 48)) := ((Below.refl _ w).alloc (Nat.le_refl _) _).alloc (by simp) _
  have hrr := hr.below hb0
  go_enter Try.func42, Try.ntmps42
  go_upto_region 1 with (fail)
  generalize (w.alloc (.cells (rdiskV A n c st lf) 51)).alloc (.cells (rstepV 1 name tn M m mc z) 48) = W at *
  have d0 : W.cell? ⟨w.heap.size, 0, none⟩ = some (.slice A n c) := hd0.cell 0
  have s0 : W.cell? ⟨w.heap.size + 1, 0, none⟩ = some (.int .i64 1) := hs0.cell 0
  have s1 : W.cell? ⟨w.heap.size + 1, 1, none⟩ = some (.string name) := hs0.cell 1
  have s2 : W.cell? ⟨w.heap.size + 1, 2, none⟩ = some (.string tn) := hs0.cell 2
  have s3 : W.cell? ⟨w.heap.size + 1, 3, none⟩ = some (.slice M m mc) := hs0.cell 3
  have s4 : W.cell? ⟨w.heap.size + 1, 4, none⟩ = some (.int .i64 z) := hs0.cell 4
  have HN := hide (rname_any name · hs1)
  have HT := hide (rname_any tn · hs2)
  have HFd := hide (rfind_any (c := c) (name := name) W (hrr.more hb0.size) (by omega))
  have HB0 := hide hb0
  clear hd0 hs0 hr hM hb0
  cases hx : nameDS name with
  | false =>
    have HR : Hid (refP l name (cmdOf 1 tn bs z) = 2) := by show _ = _; unfold refP; rw [if_pos (by show badL [name] = true; rw [badL_one, hx]; rfl)]
    rw [hx] at HN
    clear hx
    go_wp2_with (first
        | (go_at_call_of 11 (Value.string name); refine (HN.out _).mono ?_; rintro e w20 ⟨rfl, rfl⟩)
        | (go_at_call 11; refine (HT.out _).mono ?_; rintro e w21 ⟨rfl, rfl⟩)
        | (go_at_call 19; go_must (refine HFd.out.mono ?_; rintro e w22 ⟨⟨zf, rfl, hzf⟩, rfl⟩; have HZF := hide hzf; clear hzf))
        | fail)
    go_ret
    exact ⟨by rw [HR.out]; rfl, HB0.out⟩
  | true =>
    rw [hx] at HN
    have HG : Hid (badL (Cmd.names name (cmdOf 1 tn bs z)) = false) := by show badL [name] = false; rw [badL_one, hx]; rfl
    clear hx
    go_upto_region 4 with (first
        | (go_at_call_of 11 (Value.string name); refine (HN.out _).mono ?_; rintro e w20 ⟨rfl, rfl⟩)
        | (go_at_call 11; refine (HT.out _).mono ?_; rintro e w21 ⟨rfl, rfl⟩)
        | (go_at_call 19; go_must (refine HFd.out.mono ?_; rintro e w22 ⟨⟨zf, rfl, hzf⟩, rfl⟩; have HZF := hide hzf; clear hzf))
        | fail)
    clear HFd HN HT
    cases hf : findL l name with
    | none =>
      have hzn : zf = -1 := by
        rcases HZF.out with ⟨_, h⟩ | ⟨k, x, _, _, _, _, h⟩
        · exact h
        · rw [hf] at h; cases h
      subst hzn
      have HG2 : Hid (getL l name = (name, [], 0)) := by show _ = _; unfold getL; rw [hf]; rfl
      have HF := hide hf
      clear hf HZF
      have HR : Hid (refP l name (cmdOf 1 tn bs z) = 5) := by show _ = _; unfold refP; rw [HG.out, HF.out]; rfl
      go_wp2_with fail
      go_ret
      exact ⟨by rw [HR.out]; rfl, HB0.out⟩
    | some x =>
      obtain ⟨k, hzk, hkn, hlk⟩ : ∃ k : Nat, zf = k ∧ k < n ∧ l[k]? = some x := by
        rcases HZF.out with ⟨h, _⟩ | ⟨k, y, h1, h2, h3, _, h⟩
        · rw [hf] at h; cases h
        · rw [hf] at h; injection h with h; subst h; exact ⟨k, h1, h2, h3⟩
      subst hzk
      have hk0 : decide ((k : Int) < 0) = false := decide_eq_false (by omega)
      have hk0' : decide ((0 : Int) ≤ (k : Int)) = true := decide_eq_true (by omega)
      have hkI : (k : Int) < (n : Int) := by omega
      have hkz : (0 : Int) ≤ (k : Int) := by omega
      obtain ⟨bq, oq, y, rfl, hbq, hly, k1, k2, k3⟩ := hrr.dat hkn
      obtain rfl : x = y := by rw [hlk] at hly; injection hly
      obtain ⟨S, hS⟩ : ∃ S : ByteArray, S = ⟨x.2.1.toArray⟩ := ⟨_, rfl⟩
      rw [← hS] at k2
      have hSz : S.size = x.2.1.length := by rw [hS, size_of_arr]
      have hxl := hfl x (find_mem hf).1
      have HG2 : Hid (getL l name = x) := by show _ = _; unfold getL; rw [hf]; rfl
      have HR : Hid (refP l name (cmdOf 1 tn bs z) = ownP (cmdOf 1 tn bs z) x) := by
        show _ = _
        unfold refP
        rw [HG.out, if_neg (by decide), hf, HG2.out]
        simp
      have HS := hide hSz
      have hSb : S.size ≤ 1048576 := by omega
      clear hf HZF hlk hly hS hfl hxl hSz
      by_cases h3 : z < 0
      · have d3 : decide (z < 0) = true := decide_eq_true h3
        have HR2 : Hid (refP l name (cmdOf 1 tn bs z) = 4) := by show _ = _; rw [HR.out]; unfold cmdOf ownP; simp only; rw [if_pos (.inl h3)]
        clear h3
        go_wp2_with fail
        go_quiet (fail)
        go_wp2_with fail
        go_ret
        exact ⟨by rw [HR2.out]; rfl, below_drewN HB0.out _⟩
      · have d3 : decide (z < 0) = false := decide_eq_false h3
        by_cases h4 : (S.size : Int) < z
        · have d4 : decide ((S.size : Int) < z) = true := decide_eq_true h4
          have HR2 : Hid (refP l name (cmdOf 1 tn bs z) = 4) := by show _ = _; rw [HR.out]; unfold cmdOf ownP; simp only; rw [← HS.out, if_pos (.inr h4)]
          clear h3 h4
          go_wp2_with fail
          go_quiet (fail)
          go_wp2_with fail
          go_ret
          exact ⟨by rw [HR2.out]; rfl, below_drewN HB0.out _⟩
        · have d4 : decide ((S.size : Int) < z) = false := decide_eq_false h4
          have HR2 : Hid (refP l name (cmdOf 1 tn bs z) = 0) := by show _ = _; rw [HR.out]; unfold cmdOf ownP; simp only; rw [← HS.out, if_neg (by omega)]
          clear h3 h4
          go_wp2_with fail
          go_quiet (fail)
          go_wp2_with fail
          go_ret
          exact ⟨by rw [HR2.out]; rfl, below_drewN HB0.out _⟩
set_option maxHeartbeats 8000000 in
set_option maxRecDepth 20000 in
theorem rref2 {A M : Option Addr} {n c m mc : Nat} {l : FL} {st lf z : Int} {name tn : ByteArray} {bs : List UInt8} (w : World) (hr : Reads w w.heap.size 3 A n (dvs l)) (hn : n ≤ 50000) (hfl : ∀ x ∈ l, x.2.1.length ≤ 1048576) (hs1 : name.size ≤ 140737488351232) (hs2 : tn.size ≤ 140737488351232) (hM : Reads w w.heap.size 1 M m (bvs bs)) (hm : m ≤ 100000000) :
    Calls Try.prog 42 #[.agg (rdiskV A n c st lf), .agg (rstepV 2 name tn M m mc z)] w fun e w' => e = .returned (.int .i64 (refP l name (cmdOf 2 tn bs z))) ∧ Below w.heap.size w w' := by
  have HML : Hid (bs.length = m) := hM.blen
  have hd0 := (Blk.new w 51 (rdiskV A n c st lf)).alloc (.cells (rstepV 2 name tn M m mc z) 48)
  have hs0 := Blk.new (w.alloc (.cells (rdiskV A n c st lf) 51)) 48 (rstepV 2 name tn M m mc z)
  rw [World.size_alloc] at hs0
  have hb0 : Below w.heap.size w ((w.alloc (.cells (rdiskV A n c st lf) 51)).alloc (.cells (rstepV 2 name tn M m mc z) 48)) := ((Below.refl _ w).alloc (Nat.le_refl _) _).alloc (by simp) _
  have hrr := hr.below hb0
  go_enter Try.func42, Try.ntmps42
  go_upto_region 1 with (fail)
  generalize (w.alloc (.cells (rdiskV A n c st lf) 51)).alloc (.cells (rstepV 2 name tn M m mc z) 48) = W at *
  have d0 : W.cell? ⟨w.heap.size, 0, none⟩ = some (.slice A n c) := hd0.cell 0
  have s0 : W.cell? ⟨w.heap.size + 1, 0, none⟩ = some (.int .i64 2) := hs0.cell 0
  have s1 : W.cell? ⟨w.heap.size + 1, 1, none⟩ = some (.string name) := hs0.cell 1
  have s2 : W.cell? ⟨w.heap.size + 1, 2, none⟩ = some (.string tn) := hs0.cell 2
  have s3 : W.cell? ⟨w.heap.size + 1, 3, none⟩ = some (.slice M m mc) := hs0.cell 3
  have s4 : W.cell? ⟨w.heap.size + 1, 4, none⟩ = some (.int .i64 z) := hs0.cell 4
  have HN := hide (rname_any name · hs1)
  have HT := hide (rname_any tn · hs2)
  have HFd := hide (rfind_any (c := c) (name := name) W (hrr.more hb0.size) (by omega))
  have HB0 := hide hb0
  clear hd0 hs0 hr hM hb0
  cases hx : nameDS name with
  | false =>
    have HR : Hid (refP l name (cmdOf 2 tn bs z) = 2) := by show _ = _; unfold refP; rw [if_pos (by show badL [name] = true; rw [badL_one, hx]; rfl)]
    rw [hx] at HN
    clear hx
    go_wp2_with (first
        | (go_at_call_of 11 (Value.string name); refine (HN.out _).mono ?_; rintro e w20 ⟨rfl, rfl⟩)
        | (go_at_call 11; refine (HT.out _).mono ?_; rintro e w21 ⟨rfl, rfl⟩)
        | (go_at_call 19; go_must (refine HFd.out.mono ?_; rintro e w22 ⟨⟨zf, rfl, hzf⟩, rfl⟩; have HZF := hide hzf; clear hzf))
        | fail)
    go_ret
    exact ⟨by rw [HR.out]; rfl, HB0.out⟩
  | true =>
    rw [hx] at HN
    have HG : Hid (badL (Cmd.names name (cmdOf 2 tn bs z)) = false) := by show badL [name] = false; rw [badL_one, hx]; rfl
    clear hx
    go_upto_region 4 with (first
        | (go_at_call_of 11 (Value.string name); refine (HN.out _).mono ?_; rintro e w20 ⟨rfl, rfl⟩)
        | (go_at_call 11; refine (HT.out _).mono ?_; rintro e w21 ⟨rfl, rfl⟩)
        | (go_at_call 19; go_must (refine HFd.out.mono ?_; rintro e w22 ⟨⟨zf, rfl, hzf⟩, rfl⟩; have HZF := hide hzf; clear hzf))
        | fail)
    clear HFd HN HT
    cases hf : findL l name with
    | none =>
      have hzn : zf = -1 := by
        rcases HZF.out with ⟨_, h⟩ | ⟨k, x, _, _, _, _, h⟩
        · exact h
        · rw [hf] at h; cases h
      subst hzn
      have HG2 : Hid (getL l name = (name, [], 0)) := by show _ = _; unfold getL; rw [hf]; rfl
      have HF := hide hf
      clear hf HZF
      have HR : Hid (refP l name (cmdOf 2 tn bs z) = 5) := by show _ = _; unfold refP; rw [HG.out, HF.out]; rfl
      go_wp2_with fail
      go_ret
      exact ⟨by rw [HR.out]; rfl, HB0.out⟩
    | some x =>
      obtain ⟨k, hzk, hkn, hlk⟩ : ∃ k : Nat, zf = k ∧ k < n ∧ l[k]? = some x := by
        rcases HZF.out with ⟨h, _⟩ | ⟨k, y, h1, h2, h3, _, h⟩
        · rw [hf] at h; cases h
        · rw [hf] at h; injection h with h; subst h; exact ⟨k, h1, h2, h3⟩
      subst hzk
      have hk0 : decide ((k : Int) < 0) = false := decide_eq_false (by omega)
      have hk0' : decide ((0 : Int) ≤ (k : Int)) = true := decide_eq_true (by omega)
      have hkI : (k : Int) < (n : Int) := by omega
      have hkz : (0 : Int) ≤ (k : Int) := by omega
      obtain ⟨bq, oq, y, rfl, hbq, hly, k1, k2, k3⟩ := hrr.dat hkn
      obtain rfl : x = y := by rw [hlk] at hly; injection hly
      obtain ⟨S, hS⟩ : ∃ S : ByteArray, S = ⟨x.2.1.toArray⟩ := ⟨_, rfl⟩
      rw [← hS] at k2
      have hSz : S.size = x.2.1.length := by rw [hS, size_of_arr]
      have hxl := hfl x (find_mem hf).1
      have HG2 : Hid (getL l name = x) := by show _ = _; unfold getL; rw [hf]; rfl
      have HR : Hid (refP l name (cmdOf 2 tn bs z) = ownP (cmdOf 2 tn bs z) x) := by
        show _ = _
        unfold refP
        rw [HG.out, if_neg (by decide), hf, HG2.out]
        simp
      have HS := hide hSz
      have hSb : S.size ≤ 1048576 := by omega
      clear hf HZF hlk hly hS hfl hxl hSz
      have HR2 : Hid (refP l name (cmdOf 2 tn bs z) = 0) := by show _ = _; rw [HR.out]; rfl
      go_wp2_with fail
      go_quiet (fail)
      go_wp2_with fail
      go_ret
      exact ⟨by rw [HR2.out]; rfl, below_drewN HB0.out _⟩
set_option maxHeartbeats 8000000 in
set_option maxRecDepth 20000 in
theorem rref3 {A M : Option Addr} {n c m mc : Nat} {l : FL} {st lf z : Int} {name tn : ByteArray} {bs : List UInt8} (w : World) (hr : Reads w w.heap.size 3 A n (dvs l)) (hn : n ≤ 50000) (hfl : ∀ x ∈ l, x.2.1.length ≤ 1048576) (hs1 : name.size ≤ 140737488351232) (hs2 : tn.size ≤ 140737488351232) (hM : Reads w w.heap.size 1 M m (bvs bs)) (hm : m ≤ 100000000) :
    Calls Try.prog 42 #[.agg (rdiskV A n c st lf), .agg (rstepV 3 name tn M m mc z)] w fun e w' => e = .returned (.int .i64 (refP l name (cmdOf 3 tn bs z))) ∧ Below w.heap.size w w' := by
  have HML : Hid (bs.length = m) := hM.blen
  have hd0 := (Blk.new w 51 (rdiskV A n c st lf)).alloc (.cells (rstepV 3 name tn M m mc z) 48)
  have hs0 := Blk.new (w.alloc (.cells (rdiskV A n c st lf) 51)) 48 (rstepV 3 name tn M m mc z)
  rw [World.size_alloc] at hs0
  have hb0 : Below w.heap.size w ((w.alloc (.cells (rdiskV A n c st lf) 51)).alloc (.cells (rstepV 3 name tn M m mc z) 48)) := ((Below.refl _ w).alloc (Nat.le_refl _) _).alloc (by simp) _
  have hrr := hr.below hb0
  go_enter Try.func42, Try.ntmps42
  go_upto_region 1 with (fail)
  generalize (w.alloc (.cells (rdiskV A n c st lf) 51)).alloc (.cells (rstepV 3 name tn M m mc z) 48) = W at *
  have d0 : W.cell? ⟨w.heap.size, 0, none⟩ = some (.slice A n c) := hd0.cell 0
  have s0 : W.cell? ⟨w.heap.size + 1, 0, none⟩ = some (.int .i64 3) := hs0.cell 0
  have s1 : W.cell? ⟨w.heap.size + 1, 1, none⟩ = some (.string name) := hs0.cell 1
  have s2 : W.cell? ⟨w.heap.size + 1, 2, none⟩ = some (.string tn) := hs0.cell 2
  have s3 : W.cell? ⟨w.heap.size + 1, 3, none⟩ = some (.slice M m mc) := hs0.cell 3
  have s4 : W.cell? ⟨w.heap.size + 1, 4, none⟩ = some (.int .i64 z) := hs0.cell 4
  have HN := hide (rname_any name · hs1)
  have HT := hide (rname_any tn · hs2)
  have HFd := hide (rfind_any (c := c) (name := name) W (hrr.more hb0.size) (by omega))
  have HB0 := hide hb0
  clear hd0 hs0 hr hM hb0
  cases hx : nameDS name with
  | false =>
    have HR : Hid (refP l name (cmdOf 3 tn bs z) = 2) := by show _ = _; unfold refP; rw [if_pos (by show badL [name, tn] = true; rw [badL_two, hx]; rfl)]
    rw [hx] at HN
    clear hx
    go_wp2_with (first
        | (go_at_call_of 11 (Value.string name); refine (HN.out _).mono ?_; rintro e w20 ⟨rfl, rfl⟩)
        | (go_at_call 11; refine (HT.out _).mono ?_; rintro e w21 ⟨rfl, rfl⟩)
        | (go_at_call 19; go_must (refine HFd.out.mono ?_; rintro e w22 ⟨⟨zf, rfl, hzf⟩, rfl⟩; have HZF := hide hzf; clear hzf))
        | fail)
    go_ret
    exact ⟨by rw [HR.out]; rfl, HB0.out⟩
  | true =>
    rw [hx] at HN
    cases hy : nameDS tn with
    | false =>
      have HR : Hid (refP l name (cmdOf 3 tn bs z) = 2) := by show _ = _; unfold refP; rw [if_pos (by show badL [name, tn] = true; rw [badL_two, hx, hy]; rfl)]
      rw [hy] at HT
      clear hx hy
      go_wp2_with (first
          | (go_at_call_of 11 (Value.string name); refine (HN.out _).mono ?_; rintro e w20 ⟨rfl, rfl⟩)
          | (go_at_call 11; refine (HT.out _).mono ?_; rintro e w21 ⟨rfl, rfl⟩)
          | (go_at_call 19; go_must (refine HFd.out.mono ?_; rintro e w22 ⟨⟨zf, rfl, hzf⟩, rfl⟩; have HZF := hide hzf; clear hzf))
          | fail)
      go_ret
      exact ⟨by rw [HR.out]; rfl, HB0.out⟩
    | true =>
      rw [hy] at HT
      have HG : Hid (badL (Cmd.names name (cmdOf 3 tn bs z)) = false) := by show badL [name, tn] = false; rw [badL_two, hx, hy]; rfl
      clear hx hy
      go_upto_region 4 with (first
          | (go_at_call_of 11 (Value.string name); refine (HN.out _).mono ?_; rintro e w20 ⟨rfl, rfl⟩)
          | (go_at_call 11; refine (HT.out _).mono ?_; rintro e w21 ⟨rfl, rfl⟩)
          | (go_at_call 19; go_must (refine HFd.out.mono ?_; rintro e w22 ⟨⟨zf, rfl, hzf⟩, rfl⟩; have HZF := hide hzf; clear hzf))
          | fail)
      clear HFd HN HT
      cases hf : findL l name with
      | none =>
        have hzn : zf = -1 := by
          rcases HZF.out with ⟨_, h⟩ | ⟨k, x, _, _, _, _, h⟩
          · exact h
          · rw [hf] at h; cases h
        subst hzn
        have HG2 : Hid (getL l name = (name, [], 0)) := by show _ = _; unfold getL; rw [hf]; rfl
        have HF := hide hf
        clear hf HZF
        have HR : Hid (refP l name (cmdOf 3 tn bs z) = 5) := by show _ = _; unfold refP; rw [HG.out, HF.out]; rfl
        go_wp2_with fail
        go_ret
        exact ⟨by rw [HR.out]; rfl, HB0.out⟩
      | some x =>
        obtain ⟨k, hzk, hkn, hlk⟩ : ∃ k : Nat, zf = k ∧ k < n ∧ l[k]? = some x := by
          rcases HZF.out with ⟨h, _⟩ | ⟨k, y, h1, h2, h3, _, h⟩
          · rw [hf] at h; cases h
          · rw [hf] at h; injection h with h; subst h; exact ⟨k, h1, h2, h3⟩
        subst hzk
        have hk0 : decide ((k : Int) < 0) = false := decide_eq_false (by omega)
        have hk0' : decide ((0 : Int) ≤ (k : Int)) = true := decide_eq_true (by omega)
        have hkI : (k : Int) < (n : Int) := by omega
        have hkz : (0 : Int) ≤ (k : Int) := by omega
        obtain ⟨bq, oq, y, rfl, hbq, hly, k1, k2, k3⟩ := hrr.dat hkn
        obtain rfl : x = y := by rw [hlk] at hly; injection hly
        obtain ⟨S, hS⟩ : ∃ S : ByteArray, S = ⟨x.2.1.toArray⟩ := ⟨_, rfl⟩
        rw [← hS] at k2
        have hSz : S.size = x.2.1.length := by rw [hS, size_of_arr]
        have hxl := hfl x (find_mem hf).1
        have HG2 : Hid (getL l name = x) := by show _ = _; unfold getL; rw [hf]; rfl
        have HR : Hid (refP l name (cmdOf 3 tn bs z) = ownP (cmdOf 3 tn bs z) x) := by
          show _ = _
          unfold refP
          rw [HG.out, if_neg (by decide), hf, HG2.out]
          simp
        have HS := hide hSz
        have hSb : S.size ≤ 1048576 := by omega
        clear hf HZF hlk hly hS hfl hxl hSz
        have HR2 : Hid (refP l name (cmdOf 3 tn bs z) = 0) := by show _ = _; rw [HR.out]; rfl
        go_wp2_with fail
        go_quiet (fail)
        go_wp2_with fail
        go_ret
        exact ⟨by rw [HR2.out]; rfl, below_drewN HB0.out _⟩
set_option maxHeartbeats 8000000 in
set_option maxRecDepth 20000 in
theorem rref4 {A M : Option Addr} {n c m mc : Nat} {l : FL} {st lf z : Int} {name tn : ByteArray} {bs : List UInt8} (w : World) (hr : Reads w w.heap.size 3 A n (dvs l)) (hn : n ≤ 50000) (hfl : ∀ x ∈ l, x.2.1.length ≤ 1048576) (hs1 : name.size ≤ 140737488351232) (hs2 : tn.size ≤ 140737488351232) (hM : Reads w w.heap.size 1 M m (bvs bs)) (hm : m ≤ 100000000) :
    Calls Try.prog 42 #[.agg (rdiskV A n c st lf), .agg (rstepV 4 name tn M m mc z)] w fun e w' => e = .returned (.int .i64 (refP l name (cmdOf 4 tn bs z))) ∧ Below w.heap.size w w' := by
  have HML : Hid (bs.length = m) := hM.blen
  have hd0 := (Blk.new w 51 (rdiskV A n c st lf)).alloc (.cells (rstepV 4 name tn M m mc z) 48)
  have hs0 := Blk.new (w.alloc (.cells (rdiskV A n c st lf) 51)) 48 (rstepV 4 name tn M m mc z)
  rw [World.size_alloc] at hs0
  have hb0 : Below w.heap.size w ((w.alloc (.cells (rdiskV A n c st lf) 51)).alloc (.cells (rstepV 4 name tn M m mc z) 48)) := ((Below.refl _ w).alloc (Nat.le_refl _) _).alloc (by simp) _
  have hrr := hr.below hb0
  go_enter Try.func42, Try.ntmps42
  go_upto_region 1 with (fail)
  generalize (w.alloc (.cells (rdiskV A n c st lf) 51)).alloc (.cells (rstepV 4 name tn M m mc z) 48) = W at *
  have d0 : W.cell? ⟨w.heap.size, 0, none⟩ = some (.slice A n c) := hd0.cell 0
  have s0 : W.cell? ⟨w.heap.size + 1, 0, none⟩ = some (.int .i64 4) := hs0.cell 0
  have s1 : W.cell? ⟨w.heap.size + 1, 1, none⟩ = some (.string name) := hs0.cell 1
  have s2 : W.cell? ⟨w.heap.size + 1, 2, none⟩ = some (.string tn) := hs0.cell 2
  have s3 : W.cell? ⟨w.heap.size + 1, 3, none⟩ = some (.slice M m mc) := hs0.cell 3
  have s4 : W.cell? ⟨w.heap.size + 1, 4, none⟩ = some (.int .i64 z) := hs0.cell 4
  have HN := hide (rname_any name · hs1)
  have HT := hide (rname_any tn · hs2)
  have HFd := hide (rfind_any (c := c) (name := name) W (hrr.more hb0.size) (by omega))
  have HB0 := hide hb0
  clear hd0 hs0 hr hM hb0
  cases hx : nameDS name with
  | false =>
    have HR : Hid (refP l name (cmdOf 4 tn bs z) = 2) := by show _ = _; unfold refP; rw [if_pos (by show badL [name] = true; rw [badL_one, hx]; rfl)]
    rw [hx] at HN
    clear hx
    go_wp2_with (first
        | (go_at_call_of 11 (Value.string name); refine (HN.out _).mono ?_; rintro e w20 ⟨rfl, rfl⟩)
        | (go_at_call 11; refine (HT.out _).mono ?_; rintro e w21 ⟨rfl, rfl⟩)
        | (go_at_call 19; go_must (refine HFd.out.mono ?_; rintro e w22 ⟨⟨zf, rfl, hzf⟩, rfl⟩; have HZF := hide hzf; clear hzf))
        | fail)
    go_ret
    exact ⟨by rw [HR.out]; rfl, HB0.out⟩
  | true =>
    rw [hx] at HN
    have HG : Hid (badL (Cmd.names name (cmdOf 4 tn bs z)) = false) := by show badL [name] = false; rw [badL_one, hx]; rfl
    clear hx
    go_upto_region 4 with (first
        | (go_at_call_of 11 (Value.string name); refine (HN.out _).mono ?_; rintro e w20 ⟨rfl, rfl⟩)
        | (go_at_call 11; refine (HT.out _).mono ?_; rintro e w21 ⟨rfl, rfl⟩)
        | (go_at_call 19; go_must (refine HFd.out.mono ?_; rintro e w22 ⟨⟨zf, rfl, hzf⟩, rfl⟩; have HZF := hide hzf; clear hzf))
        | fail)
    clear HFd HN HT
    cases hf : findL l name with
    | none =>
      have hzn : zf = -1 := by
        rcases HZF.out with ⟨_, h⟩ | ⟨k, x, _, _, _, _, h⟩
        · exact h
        · rw [hf] at h; cases h
      subst hzn
      have HG2 : Hid (getL l name = (name, [], 0)) := by show _ = _; unfold getL; rw [hf]; rfl
      have HF := hide hf
      clear hf HZF
      have HR : Hid (refP l name (cmdOf 4 tn bs z) = 5) := by show _ = _; unfold refP; rw [HG.out, HF.out]; rfl
      go_wp2_with fail
      go_ret
      exact ⟨by rw [HR.out]; rfl, HB0.out⟩
    | some x =>
      obtain ⟨k, hzk, hkn, hlk⟩ : ∃ k : Nat, zf = k ∧ k < n ∧ l[k]? = some x := by
        rcases HZF.out with ⟨h, _⟩ | ⟨k, y, h1, h2, h3, _, h⟩
        · rw [hf] at h; cases h
        · rw [hf] at h; injection h with h; subst h; exact ⟨k, h1, h2, h3⟩
      subst hzk
      have hk0 : decide ((k : Int) < 0) = false := decide_eq_false (by omega)
      have hk0' : decide ((0 : Int) ≤ (k : Int)) = true := decide_eq_true (by omega)
      have hkI : (k : Int) < (n : Int) := by omega
      have hkz : (0 : Int) ≤ (k : Int) := by omega
      obtain ⟨bq, oq, y, rfl, hbq, hly, k1, k2, k3⟩ := hrr.dat hkn
      obtain rfl : x = y := by rw [hlk] at hly; injection hly
      obtain ⟨S, hS⟩ : ∃ S : ByteArray, S = ⟨x.2.1.toArray⟩ := ⟨_, rfl⟩
      rw [← hS] at k2
      have hSz : S.size = x.2.1.length := by rw [hS, size_of_arr]
      have hxl := hfl x (find_mem hf).1
      have HG2 : Hid (getL l name = x) := by show _ = _; unfold getL; rw [hf]; rfl
      have HR : Hid (refP l name (cmdOf 4 tn bs z) = ownP (cmdOf 4 tn bs z) x) := by
        show _ = _
        unfold refP
        rw [HG.out, if_neg (by decide), hf, HG2.out]
        simp
      have HS := hide hSz
      have hSb : S.size ≤ 1048576 := by omega
      clear hf HZF hlk hly hS hfl hxl hSz
      have HR2 : Hid (refP l name (cmdOf 4 tn bs z) = 0) := by show _ = _; rw [HR.out]; rfl
      go_wp2_with fail
      go_quiet (fail)
      go_wp2_with fail
      go_ret
      exact ⟨by rw [HR2.out]; rfl, below_drewN HB0.out _⟩
end Go.Proofs.Ytaaaljpnhfmbpaa
