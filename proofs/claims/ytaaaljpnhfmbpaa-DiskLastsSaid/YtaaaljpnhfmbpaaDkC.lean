/- The walk of Append's own function that puts bytes behind a file's (package disk). Conditions: those of each theorem. -/
import Derived.Test.YtaaaljpnhfmbpaaDkB
namespace Go.Proofs.Ytaaaljpnhfmbpaa
open Go.RowKit
set_option linter.unusedVariables false

/-- an append in a region that draws its order; where the new row lies -/
theorem step_appendX {P : Program} {ops : Array Oper} {o : Oper} {a : Act} {w : World} {K : Act → World → Prop} {Q : Exit → Act → World → Prop} {E : Prop} (hgd : o.guard = none) (s x : Operand) (t : TypeId)
    (ho : o.op = .call { callee := .builtin .append, args := #[s, x], argTypes := #[t, t] })
    {e : TypeId} {size bytes : Nat} {z : Value} (hE : ElemOk P e size bytes z) (ht : P.underlying t = some (.slice e))
    {base : Nat} {v : Value} {n : Nat} {xs : List Value} (hown : w.ownsRow base e size v n xs) (hs : a.eval s = v) {B : Nat} {A : Option Addr} {m c : Nat} {news : List Value} (hr : Reads w B size A m news) (hx : a.eval x = .slice A m c) (h1 : ∀ u ∈ news, u.oneCell' = true)
    (h63 : n + m ≤ maxLen) (hbytes : (n + m) * bytes ≤ 140737488355328) (hbase : base ≤ w.heap.size)
    (h : ∀ v' w', w'.ownsRow base e size v' (n + m) (xs ++ news) → Below base w w' → w.grownBy w' v.ownBlock → (v'.ownBlock = v.ownBlock ∨ v'.ownBlock = some w.heap.size) → K (a.put o.dst v') w') : if Region.wanted o (yielded ops a.tmps) = true then Oper.wp P o a w K Q else E := by
  have hw : Region.wanted o (yielded ops a.tmps) = true := by simp [Region.wanted, hgd]
  rw [if_pos hw]
  obtain ⟨v', w', hrun, h2, h3, h4⟩ := run_append_any (P := P) t o.type e size bytes z hE ht hown (c := c) hr h1 h63 hbytes hbase
  unfold Oper.wp execOp
  simp only [ho, resolve, invoke, builtin, Sem.run_bind, Sem.run_pure, Result.andThen_ok, List.map_toArray, List.map_cons, List.map_nil, hs, hx, hrun]
  exact h _ _ h2 (below_grown hown h3 hbase) h3 h4
/-- .. to a row that a conversion may have laid -/
theorem step_appendZ {P : Program} {ops : Array Oper} {o : Oper} {a : Act} {w : World} {K : Act → World → Prop} {Q : Exit → Act → World → Prop} {E : Prop} (hgd : o.guard = none) (s x : Operand) (t : TypeId)
    (ho : o.op = .call { callee := .builtin .append, args := #[s, x], argTypes := #[t, t] })
    {e : TypeId} {bytes : Nat} {z : Value} (hE : ElemOk P e 1 bytes z) (ht : P.underlying t = some (.slice e))
    {base : Nat} {v : Value} {n : Nat} {xs : List Value} (hown : OwnZ w base e v n xs) (hs : a.eval s = v) {B : Nat} {A : Option Addr} {m c : Nat} {news : List Value} (hr : Reads w B 1 A m news) (hx : a.eval x = .slice A m c) (h1 : ∀ u ∈ news, u.oneCell' = true)
    (h63 : n + m ≤ maxLen) (hbytes : (n + m) * bytes ≤ 140737488355328) (hbase : base ≤ w.heap.size)
    (h : ∀ v' w', OwnZ w' base e v' (n + m) (xs ++ news) → Below base w w' → w.grownBy w' v.ownBlock → (v'.ownBlock = v.ownBlock ∨ v'.ownBlock = some w.heap.size) → K (a.put o.dst v') w') : if Region.wanted o (yielded ops a.tmps) = true then Oper.wp P o a w K Q else E := by
  have hw : Region.wanted o (yielded ops a.tmps) = true := by simp [Region.wanted, hgd]
  rw [if_pos hw]
  obtain ⟨v', w', hrun, h2, h3, h4⟩ := run_append_z (P := P) t o.type e bytes z hE ht hown (c := c) hr h1 h63 hbytes hbase
  unfold Oper.wp execOp
  simp only [ho, resolve, invoke, builtin, Sem.run_bind, Sem.run_pure, Result.andThen_ok, List.map_toArray, List.map_cons, List.map_nil, hs, hx, hrun]
  exact h _ _ h2 (below_grownZ hown h3 hbase) h3 h4

theorem below_put {w : World} {r B : Nat} {o : Obj} (h : B ≤ r) : Below B w (w.putObj r o) := ⟨rfl, rfl, rfl, by simp [World.putObj], fun k hk => by simp [World.putObj, show r ≠ k by omega]⟩

/-- what stays behind an Append: all but the file's block, its bytes' block and the map -/
def KeptBut (w w' : World) (p r : Nat) (v : Value) : Prop := w.heap.size ≤ w'.heap.size ∧ ∀ k, k < w.heap.size → k ≠ p → k ≠ r → v.ownBlock ≠ some k → w'.heap[k]? = w.heap[k]?

set_option maxHeartbeats 4000000 in
set_option maxRecDepth 20000 in
theorem append2_any {B p bb bd bn g r m cm n c sy : Nat} {M A : Option Addr} {b bs : List UInt8} {kvs : List KV} {st lf : Int} {en : Bool} {name : ByteArray} (w : World)
    (hp : Blk w p 67 (fcells A n c sy)) (ho : OwnZ w B 5 (.slice A n c) n (bvs b)) (hbb : Blk w bb 35 #[.slice M m cm]) (hM : Reads w w.heap.size 1 M m (bvs bs))
    (hbd : Blk w bd 28 #[.pointer (some ⟨g, 0, none⟩)]) (hbn : Blk w bn 9 #[.string name]) (hg : Blk w g 70 (kcells r st en lf)) (hr : Ms w r kvs)
    (hB : B ≤ w.heap.size) (hpB : B ≤ p) (hrB : B ≤ r) (hn : n + m ≤ 1048576) :
    Calls Try.prog 41 #[.pointer (some ⟨p, 0, none⟩), .pointer (some ⟨bb, 0, none⟩), .pointer (some ⟨bd, 0, none⟩), .pointer (some ⟨bn, 0, none⟩)] w fun e w' => e = .returned (.tuple #[]) ∧
      ∃ A' c', Blk w' p 67 (fcells A' (n + m) c' sy) ∧ OwnZ w' B 5 (.slice A' (n + m) c') (n + m) (bvs (b ++ bs)) ∧ Ms w' r (putS kvs name (.pointer (some ⟨p, 0, none⟩))) ∧ Below B w w' ∧
        (∀ k, (Value.slice A' (n + m) c').ownBlock = some k → (Value.slice A n c).ownBlock = some k ∨ w.heap.size ≤ k) ∧ KeptBut w w' p r (.slice A n c) := by
  have c0 : w.drew.cell? ⟨p, 0, none⟩ = some (.slice A n c) := hp.cell 0
  have c0' : w.cell? ⟨p, 0, none⟩ = some (.slice A n c) := hp.cell 0
  have c1 : w.drew.cell? ⟨bb, 0, none⟩ = some (.slice M m cm) := hbb.cell 0
  have c1' : w.cell? ⟨bb, 0, none⟩ = some (.slice M m cm) := hbb.cell 0
  have hod : OwnZ w.drew B 5 (.slice A n c) n (bvs b) := ho
  have hMd : Reads w.drew w.heap.size 1 M m (bvs bs) := hM
  have hpo := zown_not ho hp (by decide)
  have hro := zown_not_map ho hr
  have hrp : r ≠ p := fun e => by
    obtain ⟨es, ck, h1, _⟩ := hr
    unfold Blk at hp
    rw [e, hp] at h1
    cases h1
  have hT : Hid (∀ k t cs, Blk w k t cs → t ≠ 5 → (Value.slice A n c).ownBlock ≠ some k) := fun k t cs hk hne => zown_not ho hk hne
  go_enter Try.func41, Try.ntmps41
  go_upto_region 0 with (fail)
  go_region_law (first
    | (refine step_appendZ (o := ⟨some 11, _, _, _, _, _⟩) (by rfl) (.tmp 9) (.tmp 10) 35 (by rfl) u8_ok Try.underlying35 hod (by rfl) hMd (by rfl) (bvs_one _) (by unfold maxLen; omega) (by omega) hB ?_
       intro v5 w5 hown5 hb5 hg5 hv5
       rw [← bvs_append] at hown5
       obtain ⟨A5, c5, rfl, hc51, hc52⟩ := zown_slice hown5
       have hp5 : Blk w5 p 67 (fcells A n c sy) := (show Blk w.drew p 67 (fcells A n c sy) from hp).grown hg5 (fun e => hpo e.symm)
       have cp5 : w5.cell? ⟨p, 0, none⟩ = some (.slice A n c) := hp5.cell 0
       have fp5 := hp5.frozen 0))
  all_goals
    have hz5 : w.heap.size ≤ w5.heap.size := hg5.size
    have hkeep : Hid (∀ k t cs, Blk w k t cs → t ≠ 5 → k ≠ p → Blk (w5.setCell ⟨p, 0, none⟩ (.slice A5 (n + m) c5)) k t cs) := fun k t cs hk hne hkp =>
      ((show Blk w.drew k t cs from hk).grown hg5 (fun e => hT.out k t cs hk hne e.symm)).far (p := ⟨p, 0, none⟩) hkp _
    have hr5 : Ms w5 r kvs := hr.keep (hg5.block r hr.lt (fun e => hro e.symm))
    have hr6 : Ms (w5.setCell ⟨p, 0, none⟩ (.slice A5 (n + m) c5)) r kvs := hr5.setCell (p := ⟨p, 0, none⟩) hrp _
    have hp6 : Blk (w5.setCell ⟨p, 0, none⟩ (.slice A5 (n + m) c5)) p 67 (fcells A5 (n + m) c5 sy) := hp5.set_ 0 _
    have hpo5 := zown_not hown5 hp5 (by decide)
    have ho6 := zown_far hown5 (p := ⟨p, 0, none⟩) hpo5 (.slice A5 (n + m) c5)
    have hbd6 := hkeep.out bd _ _ hbd (by decide) (fun e => by rw [e] at hbd; exact hbd.ne_ hp (by decide) rfl)
    have hbn6 := hkeep.out bn _ _ hbn (by decide) (fun e => by rw [e] at hbn; exact hbn.ne_ hp (by decide) rfl)
    have hg6 := hkeep.out g _ _ hg (by decide) (fun e => by rw [e] at hg; exact hg.ne_ hp (by decide) rfl)
    have hb6 : Below B w (w5.setCell ⟨p, 0, none⟩ (.slice A5 (n + m) c5)) := (show Below B w w5 from ⟨hb5.os, hb5.tape, hb5.output, hb5.size, hb5.block⟩).setCell (p := ⟨p, 0, none⟩) hpB _
    have hk6 : Hid (∀ k, k < w.heap.size → k ≠ p → (Value.slice A n c).ownBlock ≠ some k → (w5.setCell ⟨p, 0, none⟩ (.slice A5 (n + m) c5)).heap[k]? = w.heap[k]?) := fun k hk hkp hko =>
      (Below.heap_setCell w5 ⟨p, 0, none⟩ _ k hkp).trans (hg5.block k hk (fun e => hko e.symm))
    have hz6 : w.heap.size ≤ (w5.setCell ⟨p, 0, none⟩ (.slice A5 (n + m) c5)).heap.size := by simpa using hz5
    generalize w5.setCell ⟨p, 0, none⟩ (.slice A5 (n + m) c5) = w6 at *
    clear hkeep c0 c0' c1 c1' hod hMd cp5 fp5 hp5 hr5 hb5 hg5 hp ho hbb hM hbd hbn hg hr hT
    have q1 : w6.cell? ⟨bd, 0, none⟩ = some (.pointer (some ⟨g, 0, none⟩)) := hbd6.cell 0
    have q2 : w6.cell? ⟨bn, 0, none⟩ = some (.string name) := hbn6.cell 0
    have q3 : w6.cell? ⟨g, 0, none⟩ = some (.map (some r)) := hg6.cell 0
    have q1d : w6.drew.cell? ⟨bd, 0, none⟩ = some (.pointer (some ⟨g, 0, none⟩)) := hbd6.cell 0
    have q2d : w6.drew.cell? ⟨bn, 0, none⟩ = some (.string name) := hbn6.cell 0
    have q3d : w6.drew.cell? ⟨g, 0, none⟩ = some (.map (some r)) := hg6.cell 0
    obtain ⟨o, hu, hms⟩ := Ms.update (P := Try.prog) Try.underlying68 Try.underlying9 (show Ms w6.drew r kvs from hr6) name (.pointer (some ⟨p, 0, none⟩))
    have HMS := hide hms
    clear hms
    go_upto_region 1 with (fail)
    go_region_law (fail)
    all_goals
      go_wp2_with fail
      go_end0
      refine ⟨rfl, A5, c5, (show Blk w6.drew p 67 (fcells A5 (n + m) c5 sy) from hp6).putObj (show Ms w6.drew r kvs from hr6) o, zown_putObj (w := w6.drew) ho6 (show Ms w6.drew r kvs from hr6) o, HMS.out, hb6.drew.trans (below_put hrB), fun k hk => ?_, by simpa [World.putObj] using hz6, fun k hk hkp hkr hko => ?_⟩
      · rcases hv5 with hv5 | hv5
        · exact .inl (hv5 ▸ hk)
        · rw [hk] at hv5
          injection hv5 with hv5
          exact .inr (by rw [hv5]; exact Nat.le_refl _)
      · rw [← hk6.out k hk hkp hko]
        simp [World.putObj, Ne.symm hkr]
        rfl
end Go.Proofs.Ytaaaljpnhfmbpaa
