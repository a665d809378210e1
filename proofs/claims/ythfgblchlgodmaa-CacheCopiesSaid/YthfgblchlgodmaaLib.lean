/- Small words for memory that every walk of this seat uses: a slice that reads as a list, a block known whole, laws for append, conversion and make whose new world is a variable. Conditions: those of each theorem. -/
import Derived.WalkKit
import Derived.Laws.EntriesVeiled
import Derived.WalkSpells
import Derived.WalkLawsBesides
import Derived.Lib.Hide
import Derived.Deep.AppendLies
import Derived.Deep.Draws
import Derived.Maps.AppendAt
import Derived.Laws.IdiomStrings
namespace Go.Proofs.Ythfgblchlgodmaa
open Go.RowKit

theorem ret_int {k : IntKind} {a b : Int} (h : a = b) : Ending.returned (.int k a) = .returned (.int k b) := by rw [h]
theorem ret_bool {a b : Bool} (h : a = b) : Ending.returned (.bool a) = .returned (.bool b) := by rw [h]
theorem ret_str {a b : ByteArray} (h : a = b) : Ending.returned (.string a) = .returned (.string b) := by rw [h]
theorem ret_tup2 {k : IntKind} {a b : Int} {v : Value} (h : a = b) : Ending.returned (.tuple #[.int k a, v]) = .returned (.tuple #[.int k b, v]) := by rw [h]
theorem hide {p : Prop} (h : p) : Hid p := h

/-- bytes as cells -/
def bvs (l : List UInt8) : List Value := l.map fun b => .int .u8 (b.toNat : Int)
theorem bvs_length (l : List UInt8) : (bvs l).length = l.length := by simp [bvs]
theorem bvs_append (l m : List UInt8) : bvs (l ++ m) = bvs l ++ bvs m := by simp [bvs]
theorem bvs_one (l : List UInt8) : ∀ u ∈ bvs l, u.oneCell' = true := by
  intro u hu; simp only [bvs, List.mem_map] at hu; obtain ⟨b, _, rfl⟩ := hu; rfl
theorem bvs_at (l : List UInt8) (j : Nat) : (bvs l)[j]? = l[j]?.map fun b => .int .u8 (b.toNat : Int) := by simp [bvs]
theorem bvs_inj {l m : List UInt8} (h : bvs l = bvs m) : l = m := by
  induction l generalizing m with
  | nil => cases m with
    | nil => rfl
    | cons _ _ => simp [bvs] at h
  | cons a l ih => cases m with
    | nil => simp [bvs] at h
    | cons b m =>
      simp only [bvs, List.map_cons, List.cons.injEq, Value.int.injEq, true_and] at h
      obtain ⟨h1, h2⟩ := h
      have : a = b := UInt8.toNat_inj.1 (by omega)
      rw [this, ih h2]
theorem bvs_drop (l : List UInt8) (k : Nat) : (bvs l).drop k = bvs (l.drop k) := by simp [bvs]
theorem bvs_take (l : List UInt8) (k : Nat) : (bvs l).take k = bvs (l.take k) := by simp [bvs]

/-- the slice value '.slice A n c' reads as the cells xs, below block B -/
def Reads (w : World) (B size : Nat) (A : Option Addr) (n : Nat) (xs : List Value) : Prop :=
  xs.length = n * size ∧ (0 < n → ∃ b o, A = some ⟨b, o, none⟩ ∧ b < B ∧ ∀ j u, xs[j]? = some u → w.cell? ⟨b, o + j, none⟩ = some u)

section
variable {w w' : World} {B B' size n : Nat} {A : Option Addr} {xs : List Value}
theorem Reads.none_ (w : World) (B size : Nat) (A : Option Addr) : Reads w B size A 0 [] := ⟨by simp, fun h => absurd h (by omega)⟩
theorem Reads.keep (h : Reads w B size A n xs) (hk : ∀ b o, b < B → w'.cell? ⟨b, o, none⟩ = w.cell? ⟨b, o, none⟩) : Reads w' B size A n xs :=
  ⟨h.1, fun hn => by
    obtain ⟨b, o, e, hb, hc⟩ := h.2 hn
    exact ⟨b, o, e, hb, fun j u hu => (hk _ _ hb).trans (hc j u hu)⟩⟩
theorem Reads.more (h : Reads w B size A n xs) (hB : B ≤ B') : Reads w B' size A n xs :=
  ⟨h.1, fun hn => by
    obtain ⟨b, o, e, hb, hc⟩ := h.2 hn
    exact ⟨b, o, e, by omega, hc⟩⟩
theorem Reads.below (h : Reads w B size A n xs) (hb : Below B w w') : Reads w' B size A n xs := h.keep fun b o hp => hb.cell (p := ⟨b, o, none⟩) hp
theorem Reads.below' {B₀ : Nat} (h : Reads w B size A n xs) (hb : Below B₀ w w') (hB : B ≤ B₀) : Reads w' B size A n xs := h.below (hb.mono hB)
theorem Reads.drew (h : Reads w B size A n xs) : Reads w.drew B size A n xs := h
theorem Reads.drewN (h : Reads w B size A n xs) (k : Nat) : Reads (w.drewN k) B size A n xs := h
theorem Reads.alloc (h : Reads w B size A n xs) (hB : B ≤ w.heap.size) (o : Obj) : Reads (w.alloc o) B size A n xs := h.keep fun b q hp => World.cell?_alloc_lt w o ⟨b, q, none⟩ (by simp; omega)
theorem Reads.setCell (h : Reads w B size A n xs) {p : Addr} (hB : B ≤ p.block) (u : Value) : Reads (w.setCell p u) B size A n xs :=
  h.keep fun b o hq => World.cell?_setCell_other w p ⟨b, o, none⟩ u (fun e => by subst e; simp at hB; omega)
theorem Reads.grown (h : Reads w B size A n xs) {row : Option Nat} (hg : w.grownBy w' row) (hB : B ≤ w.heap.size) (hr : ∀ g, row = some g → B ≤ g) : Reads w' B size A n xs :=
  h.keep fun b o hp => World.cell?_of_block (a := ⟨b, o, none⟩) (hg.block b (by omega) (fun e => by have := hr _ e.symm; omega))
theorem Reads.keepAt (h : Reads w B size A n xs) (hk : ∀ b o q, A = some ⟨b, o, none⟩ → w'.cell? ⟨b, q, none⟩ = w.cell? ⟨b, q, none⟩) : Reads w' B size A n xs :=
  ⟨h.1, fun hn => by
    obtain ⟨b, o, e, hb, hc⟩ := h.2 hn
    exact ⟨b, o, e, hb, fun j u hu => (hk _ _ _ e).trans (hc j u hu)⟩⟩
/-- a store into another block -/
theorem Reads.setFar {ad : Addr} (h : Reads w B size (some ad) n xs) {p : Addr} (hne : p.block ≠ ad.block) (u : Value) : Reads (w.setCell p u) B size (some ad) n xs :=
  h.keepAt fun b o q e => World.cell?_setCell_other w p ⟨b, q, none⟩ u (fun e' => by subst e'; injection e with e; subst e; exact hne rfl)
/-- element k, at one cell an element -/
theorem Reads.at_ {k : Nat} (h : Reads w B 1 A n xs) (hk : k < n) : ∃ b o u, A = some ⟨b, o, none⟩ ∧ b < B ∧ xs[k]? = some u ∧ w.cell? ⟨b, o + k, none⟩ = some u := by
  obtain ⟨b, o, e, hb, hc⟩ := h.2 (by omega)
  have hl : k < xs.length := by have := h.1; omega
  exact ⟨b, o, xs[k], e, hb, List.getElem?_eq_getElem hl, hc k _ (List.getElem?_eq_getElem hl)⟩
/-- a byte slice's address and cells -/
theorem Reads.byte {l : List UInt8} {k : Nat} (h : Reads w B 1 A n (bvs l)) (hk : k < n) :
    ∃ b o, A = some ⟨b, o, none⟩ ∧ b < B ∧ w.cell? ⟨b, o + k, none⟩ = some (.int .u8 ((l.getD k 0).toNat : Int)) := by
  obtain ⟨b, o, u, e, hb, hx, hc⟩ := h.at_ hk
  rw [bvs_at] at hx
  refine ⟨b, o, e, hb, ?_⟩
  rw [hc]
  rw [List.getD_eq_getElem?_getD]
  cases hl : l[k]? with
  | none => rw [hl] at hx; cases hx
  | some v => rw [hl] at hx; simp at hx; simp [hx]
theorem Reads.blen {l : List UInt8} (h : Reads w B 1 A n (bvs l)) : l.length = n := by have := h.1; rw [bvs_length] at this; omega
theorem Reads.cut (h : Reads w B 1 A n xs) {k m cap : Nat} (hk : k + m ≤ n) (hc : n ≤ cap) :
    Reads w B 1 (if cap = k then A else A.map (·.add k)) m ((xs.drop k).take m) := by
  refine ⟨by rw [List.length_take, List.length_drop, h.1]; omega, fun hn => ?_⟩
  obtain ⟨b, o, rfl, hb, hcell⟩ := h.2 (by omega)
  rw [if_neg (by omega)]
  refine ⟨b, o + k, ?_, hb, fun j u hu => ?_⟩
  · simp only [Option.map_some, Addr.add]; split <;> simp_all
  · rw [Nat.add_assoc]
    refine hcell _ u ?_
    rw [List.getElem?_take] at hu
    split at hu
    · rwa [List.getElem?_drop] at hu
    · cases hu
theorem Reads.of_own {base : Nat} {e : TypeId} {c : Nat} (h : w.ownsRow base e 1 (.slice A n c) n xs) : Reads w w.heap.size 1 A n xs := by
  refine ⟨h.1, fun hn => ?_⟩
  obtain ⟨g, cap, hv, _, hlt⟩ := h.form hn
  have hA : A = some ⟨g, 0, none⟩ := by injection hv
  subst hA
  refine ⟨g, 0, rfl, hlt, fun j u hu => ?_⟩
  have := h.cells (g := g) rfl j u hu
  rw [Nat.zero_add]
  have e : (⟨g, 0, none⟩ : Addr).add j = ⟨g, j, none⟩ := by unfold Addr.add; split <;> simp_all
  rwa [e] at this
end

/-- block g is just the cells cs of element type t, none frozen -/
def Blk (w : World) (g : Nat) (t : TypeId) (cs : Array Value) : Prop := w.heap[g]? = some (.cells cs t (0, 0))
section
variable {w w' : World} {g : Nat} {t : TypeId} {cs : Array Value}
theorem Blk.lt (h : Blk w g t cs) : g < w.heap.size := by
  rcases Nat.lt_or_ge g w.heap.size with hlt | hge
  · exact hlt
  · unfold Blk at h; rw [Array.getElem?_eq_none hge] at h; cases h
theorem Blk.cell (h : Blk w g t cs) (i : Nat) : w.cell? ⟨g, i, none⟩ = cs[i]? := cell_of_row w g i cs t (0, 0) h
theorem Blk.frozen (h : Blk w g t cs) (i : Nat) : w.frozen? ⟨g, i, none⟩ = false := by
  unfold Blk at h
  simp [World.frozen?, h]
theorem Blk.new (w : World) (t : TypeId) (cs : Array Value) : Blk (w.alloc (.cells cs t)) w.heap.size t cs := heap_alloc_new w _
theorem Blk.drew (h : Blk w g t cs) : Blk w.drew g t cs := h
theorem Blk.drewN (h : Blk w g t cs) (n : Nat) : Blk (w.drewN n) g t cs := h
theorem Blk.alloc (h : Blk w g t cs) (o : Obj) : Blk (w.alloc o) g t cs := (Below.heap_alloc w o g h.lt).trans h
theorem Blk.set_ (h : Blk w g t cs) (i : Nat) (u : Value) : Blk (w.setCell ⟨g, i, none⟩ u) g t (cs.setIfInBounds i u) := by
  unfold Blk at h ⊢
  simp [World.setCell, Array.getElem?_modify, h]
theorem Blk.far (h : Blk w g t cs) {p : Addr} (hp : g ≠ p.block) (u : Value) : Blk (w.setCell p u) g t cs := (Below.heap_setCell w p u g hp).trans h
theorem Blk.below {B : Nat} (h : Blk w g t cs) (hb : Below B w w') (hg : g < B) : Blk w' g t cs := (hb.block g hg).trans h
theorem Blk.grown {row : Option Nat} (h : Blk w g t cs) (hb : w.grownBy w' row) (hg : some g ≠ row) : Blk w' g t cs := (hb.block g h.lt hg).trans h
theorem Blk.ne_ {g' : Nat} {t' : TypeId} {cs' : Array Value} (h : Blk w g t cs) (h' : Blk w g' t' cs') (hne : t ≠ t') : g ≠ g' := by
  rintro rfl
  unfold Blk at h h'
  rw [h] at h'
  injection h' with h'
  injection h' with _ ht
  exact hne ht
theorem Blk.reads {n k m : Nat} (h : Blk w g t cs) (hB : g < n) (hkm : k + m ≤ cs.size) : Reads w n 1 (some ⟨g, k, none⟩) m ((cs.toList.drop k).take m) := by
  refine ⟨by simp; omega, fun _ => ⟨g, k, rfl, hB, fun j u hu => ?_⟩⟩
  rw [h.cell]
  rw [List.getElem?_take] at hu
  split at hu
  · rw [List.getElem?_drop] at hu; simpa using hu
  · cases hu
end
theorem below_drewN {B : Nat} {a w : World} (h : Below B a w) (n : Nat) : Below B a (w.drewN n) := ⟨h.os, h.tape, h.output, h.size, h.block⟩

/-! laws whose new world is a variable -/
section
variable {P : Program} {ops : Array Oper} {rest : List Oper} {o : Oper} {a : Act} {Q : Exit → Act → World → Prop} {w : World}

/-- '[]byte(s)' -/
theorem wpList_bytesOf (hgd : o.guard = none) (x : Operand) (src dst e : TypeId) (ho : o.op = .convert src dst x)
    (hs : P.underlying src = some .string) (hd : P.underlying dst = some (.slice e)) (he : P.underlying e = some (.int .u8)) (s : ByteArray) (hx : a.eval x = .string s) (hsz : s.size ≤ maxLen)
    (h : ∀ c w', Below w.heap.size w w' → w'.heap.size = w.heap.size + 1 → Reads w' (w.heap.size + 1) 1 (some ⟨w.heap.size, 0, none⟩) s.size (bvs s.data.toList) → (∀ j, j < s.size → w'.frozen? ⟨w.heap.size, j, none⟩ = false) → s.size ≤ c → c ≤ maxLen →
      wpList P ops Q rest (a.put o.dst (.slice (some ⟨w.heap.size, 0, none⟩) s.size c)) w') : wpList P ops Q (o :: rest) a w := by
  refine wpList_plain hgd fun K hK => ?_
  have hr := run_bytes_of_string (P := P) w src dst e s hs hd he
  unfold Oper.wp execOp
  simp only [ho, hx, Sem.run_bind, Sem.run_pure, hr, Result.andThen_ok]
  have hge := grownCap_ge w s.size 0 e
  refine hK _ _ (h _ _ ?_ (by simp) ?_ ?_ hge (grownCap_le_maxLen _ _ _ _ hsz))
  · exact ((Below.refl _ _).drew.alloc (by simp) _)
  · refine ⟨by simp [bvs], fun _ => ⟨_, _, rfl, by omega, fun j u hu => ?_⟩⟩
    have hlt : j < s.size := by have := (List.getElem?_eq_some_iff.1 hu).1; simpa [bvs] using this
    have hb : (w.drew.alloc (.cells (bytesRow s (grownCap w s.size 0 e)) e ((bytesRow s (grownCap w s.size 0 e)).size, (bytesRow s (grownCap w s.size 0 e)).size + 1))).heap[w.heap.size]? = some (.cells (bytesRow s (grownCap w s.size 0 e)) e ((bytesRow s (grownCap w s.size 0 e)).size, (bytesRow s (grownCap w s.size 0 e)).size + 1)) := heap_alloc_new w.drew _
    rw [Nat.zero_add, cell_of_row _ _ _ _ _ _ hb]
    rw [bvs_at] at hu
    rw [← hu]
    simp [bytesRow, Array.getElem?_append, hlt]
  · intro j hj
    have hb : (w.drew.alloc (.cells (bytesRow s (grownCap w s.size 0 e)) e ((bytesRow s (grownCap w s.size 0 e)).size, (bytesRow s (grownCap w s.size 0 e)).size + 1))).heap[w.heap.size]? = some (.cells (bytesRow s (grownCap w s.size 0 e)) e ((bytesRow s (grownCap w s.size 0 e)).size, (bytesRow s (grownCap w s.size 0 e)).size + 1)) := heap_alloc_new w.drew _
    unfold World.frozen?
    rw [hb]
    simp [bytesRow]
    omega
end
/-! append onto a row of the call's own: the source reads as a list (nil, empty or not) -/
theorem add_lit (b o j : Nat) : (⟨b, o, none⟩ : Addr).add j = ⟨b, o + j, none⟩ := by unfold Addr.add; split <;> simp_all
/-- an element type's row of the table -/
def ElemOk (P : Program) (e : TypeId) (size bytes : Nat) (z : Value) : Prop :=
  ∃ i, P.info? e = some i ∧ i.zero = some z ∧ i.size = size ∧ i.bytes = bytes ∧ z.cells.size = size ∧ 0 < size
theorem elemOk {P : Program} {e : TypeId} {size bytes : Nat} {z : Value} (h : (P.info? e).map (fun i => (i.zero, i.size, i.bytes)) = some (some z, size, bytes)) (h1 : z.cells.size = size) (h2 : 0 < size) : ElemOk P e size bytes z := by
  obtain ⟨i, hi, a, b, c⟩ := info_parts h
  exact ⟨i, hi, a, b, c, h1, h2⟩
/-- where an owned row lies -/
theorem own_form {w : World} {base : Nat} {e : TypeId} {size : Nat} {v : Value} {n : Nat} {xs : List Value} (h : w.ownsRow base e size v n xs) (hn : 0 < n) :
    ∃ g cap, v = .slice (some ⟨g, 0, none⟩) n cap ∧ n ≤ cap ∧ cap ≤ maxLen ∧ base ≤ g ∧ g < w.heap.size := by
  rcases h.2 with ⟨_, h0⟩ | ⟨g, cap, cur, hv, hb, hg, h1, h2, _⟩
  · omega
  · exact ⟨g, cap, hv, h1, h2, hb, (Array.getElem?_eq_some_iff.1 hg).1⟩
section
variable {P : Program} {ops : Array Oper} {rest : List Oper} {o : Oper} {a : Act} {Q : Exit → Act → World → Prop} {w : World}
theorem run_append_any (t ty e : TypeId) (size bytes : Nat) (z : Value) (hE : ElemOk P e size bytes z) (ht : P.underlying t = some (.slice e))
    {base : Nat} {v : Value} {n : Nat} {xs : List Value} (hown : w.ownsRow base e size v n xs) {B : Nat} {A : Option Addr} {m c : Nat} {news : List Value} (hr : Reads w B size A m news) (h1 : ∀ u ∈ news, u.oneCell' = true)
    (h63 : n + m ≤ maxLen) (hbytes : (n + m) * bytes ≤ 140737488355328) (hbase : base ≤ w.heap.size) :
    ∃ v' w', (Builtin.append_ #[t, t] ty #[v, .slice A m c]).run P w = .ok v' w' ∧ w'.ownsRow base e size v' (n + m) (xs ++ news) ∧ w.grownBy w' v.ownBlock ∧ (v'.ownBlock = v.ownBlock ∨ v'.ownBlock = some w.heap.size) := by
  obtain ⟨i, hi, hz, hsize, hby, hzs, hsz⟩ := hE
  have none_case : news = [] → m = 0 → A = none → ∃ v' w', (Builtin.append_ #[t, t] ty #[v, .slice A m c]).run P w = .ok v' w' ∧ w'.ownsRow base e size v' (n + m) (xs ++ news) ∧ w.grownBy w' v.ownBlock ∧ (v'.ownBlock = v.ownBlock ∨ v'.ownBlock = some w.heap.size) := by
    rintro rfl rfl rfl
    refine ⟨v, w, ?_, by simpa using hown, ⟨rfl, rfl, rfl, Nat.le_refl _, fun _ _ _ => rfl⟩, .inl rfl⟩
    rcases hown.2 with ⟨rfl, rfl⟩ | ⟨g, cap, cur, rfl, _, _, hnc, _⟩
    · simp [Builtin.append_, run_underlying ht, sizeOf, typeInfo, hi, Builtin.lenOf, Builtin.firstCells]
    · simp [Builtin.append_, run_underlying ht, sizeOf, typeInfo, hi, Builtin.lenOf, Builtin.firstCells, hnc, storeCells]
  have some_case : ∀ ad, A = some ad → (∀ j u, news[j]? = some u → w.cell? (ad.add j) = some u) → ∃ v' w', (Builtin.append_ #[t, t] ty #[v, .slice A m c]).run P w = .ok v' w' ∧ w'.ownsRow base e size v' (n + m) (xs ++ news) ∧ w.grownBy w' v.ownBlock ∧ (v'.ownBlock = v.ownBlock ∨ v'.ownBlock = some w.heap.size) := by
    rintro ad rfl hc
    obtain ⟨v', w', hrun, h2, h3, _, h5⟩ := run_append_own_at (P := P) w base t ty e i z size bytes ht hi hz hsize hby hzs hsz v n xs hown ad m c news hr.1 hc h1 h63 hbytes hbase
    exact ⟨v', w', hrun, h2, h3, h5⟩
  rcases Nat.eq_zero_or_pos m with h0 | h0
  · have hn : news = [] := List.eq_nil_of_length_eq_zero (by have := hr.1; rw [h0] at this; simpa using this)
    cases hA : A with
    | none => rw [← hA]; exact none_case hn h0 hA
    | some ad => rw [← hA]; exact some_case ad hA (fun j u hu => by rw [hn] at hu; simp at hu)
  · obtain ⟨b, q, hA, _, hc⟩ := hr.2 h0
    exact some_case _ hA (fun j u hu => by rw [add_lit]; exact hc j u hu)

theorem below_grown {base : Nat} {e : TypeId} {size : Nat} {v : Value} {n : Nat} {xs : List Value} {w w' : World} (hown : w.ownsRow base e size v n xs) (hg : w.grownBy w' v.ownBlock) (hbase : base ≤ w.heap.size) : Below base w w' :=
  (Below.refl base w).grown hg hbase (fun k hk => (hown.lt k hk).1)
theorem wpList_append (hgd : o.guard = none) (s x : Operand) (t : TypeId)
    (ho : o.op = .call { callee := .builtin .append, args := #[s, x], argTypes := #[t, t] })
    {e : TypeId} {size bytes : Nat} {z : Value} (hE : ElemOk P e size bytes z) (ht : P.underlying t = some (.slice e))
    {base : Nat} {v : Value} {n : Nat} {xs : List Value} (hown : w.ownsRow base e size v n xs) (hs : a.eval s = v) {B : Nat} {A : Option Addr} {m c : Nat} {news : List Value} (hr : Reads w B size A m news) (hx : a.eval x = .slice A m c) (h1 : ∀ u ∈ news, u.oneCell' = true)
    (h63 : n + m ≤ maxLen) (hbytes : (n + m) * bytes ≤ 140737488355328) (hbase : base ≤ w.heap.size)
    (h : ∀ v' w', w'.ownsRow base e size v' (n + m) (xs ++ news) → Below base w w' → w.grownBy w' v.ownBlock → (v'.ownBlock = v.ownBlock ∨ v'.ownBlock = some w.heap.size) → wpList P ops Q rest (a.put o.dst v') w') : wpList P ops Q (o :: rest) a w := by
  refine wpList_plain hgd fun K hK => ?_
  obtain ⟨v', w', hrun, h2, h3, h4⟩ := run_append_any (P := P) t o.type e size bytes z hE ht hown (c := c) hr h1 h63 hbytes hbase
  unfold Oper.wp execOp
  simp only [ho, resolve, invoke, builtin, Sem.run_bind, Sem.run_pure, Result.andThen_ok, List.map_toArray, List.map_cons, List.map_nil, hs, hx, hrun]
  exact hK _ _ (h v' w' h2 (below_grown hown h3 hbase) h3 h4)
end
theorem Reads.front {w : World} {B n : Nat} {A : Option Addr} {l : List UInt8} (h : Reads w B 1 A n (bvs l)) {m : Nat} (hm : m ≤ n) : Reads w B 1 A m (bvs (l.take m)) := by
  have hl := h.blen
  refine ⟨by simp [bvs]; omega, fun h0 => ?_⟩
  obtain ⟨b, o, e, hb, hc⟩ := h.2 (by omega)
  refine ⟨b, o, e, hb, fun j u hu => hc j u ?_⟩
  rw [← bvs_take, List.getElem?_take] at hu
  split at hu
  · exact hu
  · cases hu
/-- 'string(b)' of a byte slice that reads as l -/
theorem run_bytes_str {P : Program} {w : World} (src dst e : TypeId) (hs : P.underlying src = some (.slice e)) (he : P.underlying e = some (.int .u8)) (hd : P.underlying dst = some .string)
    {B n : Nat} {A : Option Addr} {l : List UInt8} (hr : Reads w B 1 A n (bvs l)) (c : Nat) : (convert src dst (.slice A n c)).run P w = .ok (.string ⟨l.toArray⟩) w := by
  have hl := hr.blen
  rcases Nat.eq_zero_or_pos n with h0 | h0
  · subst h0
    have : l = [] := List.eq_nil_of_length_eq_zero hl
    subst this
    rw [run_convert_bytes_string w src dst e A 0 c hs he hd]
    have hq := run_loadCells_list (P := P) w
    cases A with
    | none => simp [Conv.bytesToString, go_sem]; rfl
    | some ad => 
      have hl := hq ad ([] : List Value) (fun j v hj => by simp at hj)
      rw [run_bytesToString w ad 0 c [] hl]
      rfl
  · obtain ⟨b, o, rfl, _, hc⟩ := hr.2 h0
    rw [← hl]
    refine run_convert_bytes_back w src dst e ⟨b, o, none⟩ c l hs he hd (fun j hj => ?_)
    rw [add_lit]
    refine hc j _ ?_
    rw [bvs_at, List.getElem?_eq_getElem hj]; rfl
/-- one cell in a new block -/
theorem Reads.one_new (w : World) (x : Value) (t : TypeId) : Reads (w.alloc (.cells #[x] t)) (w.heap.size + 1) 1 (some ⟨w.heap.size, 0, none⟩) 1 [x] := by
  refine ⟨rfl, fun _ => ⟨_, _, rfl, by omega, fun j u hu => ?_⟩⟩
  have := cell_one_new w x t j u hu
  rwa [add_lit] at this
/-! make([]T, n, c), T of one cell: the new world is a variable -/
theorem madeCells_one (z : Value) (hz : z.cells = #[z]) (n : Nat) : madeCells z.cells n = Array.replicate n z := by
  rw [hz]
  apply Array.ext
  · simp [madeCells]
  · intro i h1 h2
    simp [madeCells, Nat.mod_one]
section
variable {P : Program} {ops : Array Oper} {rest : List Oper} {o : Oper} {a : Act} {Q : Exit → Act → World → Prop} {w : World}
theorem wpList_make (hgd : o.guard = none) (xl xc : Operand) (t : TypeId) (ho : o.op = .makeSlice t xl xc)
    {e : TypeId} {bytes : Nat} {z : Value} (hE : ElemOk P e 1 bytes z) (hz : z.cells = #[z]) (ht : P.underlying t = some (.slice e))
    {kl kc : IntKind} {n c : Nat} (hl : a.eval xl = .int kl (n : Int)) (hc : a.eval xc = .int kc (c : Int)) (hnc : n ≤ c) (hbytes : bytes * c ≤ 281474976710656) (h63 : c ≤ maxLen)
    (h : ∀ w', Below w.heap.size w w' → w'.heap.size = w.heap.size + 1 → Blk w' w.heap.size e (Array.replicate c z) →
      (∀ base, base ≤ w.heap.size → w'.ownsRow base e 1 (.slice (some ⟨w.heap.size, 0, none⟩) n c) n (List.replicate n z)) → wpList P ops Q rest (a.put o.dst (.slice (some ⟨w.heap.size, 0, none⟩) n c)) w') : wpList P ops Q (o :: rest) a w := by
  refine wpList_plain hgd fun K hK => ?_
  obtain ⟨i, hi, hzz, hsize, hby, _, _⟩ := hE
  subst hby
  have hb : (i.bytes : Int) * (c : Int) ≤ 281474976710656 := by
    have h : ((i.bytes * c : Nat) : Int) ≤ 281474976710656 := by omega
    rwa [Int.natCast_mul] at h
  have h63' : (c : Int) ≤ 9223372036854775807 := by unfold maxLen at h63; omega
  have hr := run_make (P := P) w t e i z ht hi hzz kl kc n c (by omega) (by omega) hb h63'
  simp only [Int.toNat_natCast, hsize, Nat.mul_one, madeCells_one z hz] at hr
  unfold Oper.wp execOp
  simp only [ho, hl, hc, Sem.run_bind, Sem.run_pure, hr, Result.andThen_ok]
  have hg : (w.alloc (.cells (Array.replicate c z) e)).heap[w.heap.size]? = some (.cells (Array.replicate c z) e) := heap_alloc_new w _
  refine hK _ _ (h _ ((Below.refl _ _).alloc (Nat.le_refl _) _) (by simp) hg (fun base hbase => ⟨by simp, .inr ⟨w.heap.size, c, _, rfl, hbase, hg, hnc, h63, by simp, ?_⟩⟩))
  simp [Nat.min_eq_left hnc]
end
/-- how long the slice in a slot is: for measures -/
def lenOf : Value → Nat
  | .slice _ n _ => n
  | _ => 0
theorem ofInt_i64 (a : Nat) (ha : a < 9223372036854775808) : (BitVec.ofInt 64 (a : Int)).toNat = a := by
  rw [BitVec.ofInt_natCast, BitVec.toNat_ofNat]; exact Nat.mod_eq_of_lt (by omega)
theorem i64_and_nat (a b : Nat) (ha : a < 9223372036854775808) (hb : b < 9223372036854775808) : bits .and .i64 (a : Int) (b : Int) = ((a &&& b : Nat) : Int) := by
  have hx : a &&& b < 2 ^ 63 := Nat.and_lt_two_pow _ (by omega)
  show IntKind.i64.wrap ((BitVec.ofInt 64 (a : Int) &&& BitVec.ofInt 64 (b : Int)).toNat : Int) = _
  rw [BitVec.toNat_and, ofInt_i64 a ha, ofInt_i64 b hb, IntKind.wrap_i64]
  omega
/-- a new one-cell block holds one byte -/
theorem Reads.one_byte (w : World) {x : Int} {b : UInt8} (hx : x = (b.toNat : Int)) (t : TypeId) : Reads (w.alloc (.cells #[.int .u8 x] t)) (w.heap.size + 1) 1 (some ⟨w.heap.size, 0, none⟩) 1 (bvs [b]) := by
  subst hx; exact Reads.one_new w _ t
/-! a whole variable of several cells loaded, stored -/
/-- of one row w and w' differ -/
def RowSet (w w' : World) (g : Nat) : Prop := Below g w w' ∧ w'.heap.size = w.heap.size ∧ ∀ k, k ≠ g → w'.heap[k]? = w.heap[k]?
theorem Blk.row {w w' : World} {g k : Nat} {t : TypeId} {cs : Array Value} (h : Blk w k t cs) (hr : RowSet w w' g) (hne : k ≠ g) : Blk w' k t cs := (hr.2.2 k hne).trans h
theorem RowSet.below {w w' : World} {g B : Nat} (hr : RowSet w w' g) (hB : B ≤ g) : Below B w w' := hr.1.mono hB
theorem Reads.row {w w' : World} {B size n : Nat} {ad : Addr} {xs : List Value} {g : Nat} (h : Reads w B size (some ad) n xs) (hr : RowSet w w' g) (hne : ad.block ≠ g) : Reads w' B size (some ad) n xs :=
  h.keepAt fun b o q e => World.cell?_of_block (a := ⟨b, q, none⟩) (hr.2.2 b (fun e' => by injection e with e; subst e; exact hne e'))
theorem Reads.rowBelow {w w' : World} {B size n : Nat} {A : Option Addr} {xs : List Value} {g : Nat} (h : Reads w B size A n xs) (hr : RowSet w w' g) (hB : B ≤ g) : Reads w' B size A n xs := h.below (hr.below hB)
section
variable {P : Program} {ops : Array Oper} {rest : List Oper} {o : Oper} {a : Act} {Q : Exit → Act → World → Prop} {w : World}
theorem run_storeVar_row (ty : TypeId) (g : Nat) {t : TypeId} {cs cs' : Array Value} (hg : Blk w g t cs) (hsz : cs'.size = cs.size) (hone : ∀ v ∈ cs'.toList, v.oneCell' = true) (hi : (P.info? ty).map (·.size) = some cs.size) :
    (storeVar ty ⟨g, 0, none⟩ (.agg cs')).run P w = .ok () (w.setRow g cs') := by
  have hst := run_storeCells_at P g 0 t cs'.toList 0 cs w hg (by simp [hsz]) hone
  have e : (cs.toList.take (0 + 0) ++ cs'.toList ++ cs.toList.drop (0 + 0 + cs'.toList.length)).toArray = cs' := by
    rw [List.drop_eq_nil_of_le (by simp [hsz])]
    simp
  rw [e] at hst
  obtain ⟨i, hi1, hi2⟩ : ∃ i, P.info? ty = some i ∧ i.size = cs.size := by
    cases h : P.info? ty with
    | none => rw [h] at hi; cases hi
    | some i => rw [h] at hi; exact ⟨i, rfl, by simpa using hi⟩
  simp [storeVar, sizeOf, typeInfo, hi1, hi2, Value.cells, hsz, hst]
theorem wpList_store_row (hgd : o.guard = none) (ty : TypeId) (x v : Operand) (ho : o.op = .store ty x v)
    (g : Nat) (hx : a.eval x = .pointer (some ⟨g, 0, none⟩)) {cs' : Array Value} (hv : a.eval v = .agg cs') {t : TypeId} {cs : Array Value} (hg : Blk w g t cs) (hsz : cs'.size = cs.size) (hone : ∀ v ∈ cs'.toList, v.oneCell' = true)
    (hi : (P.info? ty).map (·.size) = some cs.size) (h : ∀ w', RowSet w w' g → Blk w' g t cs' → wpList P ops Q rest (a.put o.dst undef) w') : wpList P ops Q (o :: rest) a w := by
  refine wpList_plain hgd fun K hK => ?_
  have hr := run_storeVar_row (P := P) ty g hg hsz hone hi
  unfold Oper.wp execOp
  simp only [ho, hx, hv, Instr.storeAt, Instr.sureAddr, Sem.run_bind, Sem.run_pure, Result.andThen_ok, hr]
  refine hK _ _ (h _ ⟨⟨rfl, rfl, rfl, by simp, fun k hk => setRow_other w g k _ (by omega)⟩, by simp, fun k hk => setRow_other w g k _ hk⟩ (setRow_heap w g cs cs' t _ hg))
end
/-- a function whose one result is a variable of several cells comes to its end -/
theorem bodyPost_cell {P : Program} {fn : Func} {p : Tmp} {ty : TypeId} (hf : fn.results = #[.cell p ty]) {R : Ending → World → Prop} {a : Act} {w : World} {g : Nat} {t : TypeId} {cs : Array Value} {d : TypeDesc}
    (hp : a.tmps.getD p undef = .pointer (some ⟨g, 0, none⟩)) (hg : Blk w g t cs) (hu : P.underlying ty = some d) (hd : (match d with | .struct _ | .array _ _ => true | _ => false) = true) (hi : (P.info? ty).map (·.size) = some cs.size)
    (hdf : a.defers = []) (hR : R (.returned (.agg cs)) w) : bodyPost P fn R .ret a w :=
  bodyPost_ret (results_cell_row hf _ _ g t cs (0, 0) d hp hg hu hd hi) hdf hR
/-- a store of a whole row, in a region that draws its order -/
theorem step_store_row {P : Program} {ops : Array Oper} {o : Oper} {a : Act} {w : World} {K : Act → World → Prop} {Q : Exit → Act → World → Prop} {E : Prop} (hgd : o.guard = none) (ty : TypeId) (x v : Operand) (ho : o.op = .store ty x v)
    (g : Nat) (hx : a.eval x = .pointer (some ⟨g, 0, none⟩)) {cs' : Array Value} (hv : a.eval v = .agg cs') {t : TypeId} {cs : Array Value} (hg : Blk w g t cs) (hsz : cs'.size = cs.size) (hone : ∀ v ∈ cs'.toList, v.oneCell' = true)
    (hi : (P.info? ty).map (·.size) = some cs.size) (h : ∀ w', RowSet w w' g → Blk w' g t cs' → K (a.put o.dst undef) w') : if Region.wanted o (yielded ops a.tmps) = true then Oper.wp P o a w K Q else E := by
  have hw : Region.wanted o (yielded ops a.tmps) = true := by simp [Region.wanted, hgd]
  rw [if_pos hw]
  have hr := run_storeVar_row (P := P) ty g hg hsz hone hi
  unfold Oper.wp execOp
  simp only [ho, hx, hv, Instr.storeAt, Instr.sureAddr, Sem.run_bind, Sem.run_pure, Result.andThen_ok, hr]
  exact h _ ⟨⟨rfl, rfl, rfl, by simp, fun k hk => setRow_other w g k _ (by omega)⟩, by simp, fun k hk => setRow_other w g k _ hk⟩ (setRow_heap w g cs cs' t _ hg)
/-! a row of cells written one by one -/
theorem Blk.setCells_far {g b : Nat} {t : TypeId} {cs : Array Value} (hne : g ≠ b) : ∀ (vs : List Value) (o : Nat) (w : World), Blk w g t cs → Blk (w.setCells b o vs) g t cs
  | [], _, _, h => h
  | v :: r, o, _, h => Blk.setCells_far hne r (o + 1) _ (h.far (p := ⟨b, o, none⟩) hne v)
theorem setCells_size (b : Nat) : ∀ (vs : List Value) (o : Nat) (w : World), (w.setCells b o vs).heap.size = w.heap.size
  | [], _, _ => rfl
  | v :: r, o, _ => (setCells_size b r (o + 1) _).trans (by simp [World.setCell])
theorem below_setCells {B b : Nat} {a : World} (hb : B ≤ b) : ∀ (vs : List Value) (o : Nat) (w : World), Below B a w → Below B a (w.setCells b o vs)
  | [], _, _, h => h
  | v :: r, o, _, h => below_setCells hb r (o + 1) _ (h.setCell (p := ⟨b, o, none⟩) hb v)
theorem Blk.setCells_at {g : Nat} {t : TypeId} : ∀ (vs : List Value) (o : Nat) (w : World) (cs : Array Value), Blk w g t cs → o + vs.length ≤ cs.size → Blk (w.setCells g o vs) g t (cs.toList.take o ++ vs ++ cs.toList.drop (o + vs.length)).toArray
  | [], o, w, cs, h, _ => by simpa [World.setCells] using h
  | v :: r, o, w, cs, h, hl => by
    have h1 := Blk.setCells_at r (o + 1) (w.setCell ⟨g, o, none⟩ v) _ (h.set_ o v) (by simp at hl ⊢; omega)
    have e := list_seg_step cs.toList o v r (by simp at hl ⊢; omega)
    have : ((cs.setIfInBounds o v).toList.take (o + 1) ++ r ++ (cs.setIfInBounds o v).toList.drop (o + 1 + r.length)) = cs.toList.take o ++ (v :: r) ++ cs.toList.drop (o + (v :: r).length) := by
      simpa [Array.toList_setIfInBounds, Nat.add_assoc] using e
    rw [this] at h1
    exact h1
theorem Blk.setCells_all {g : Nat} {t : TypeId} {w : World} {cs0 cs : Array Value} (h : Blk w g t cs0) (hsz : cs.size = cs0.size) : Blk (w.setCells g 0 cs.toList) g t cs := by
  have h1 := Blk.setCells_at cs.toList 0 w cs0 h (by simp [hsz])
  rw [List.drop_eq_nil_of_le (by simp [hsz])] at h1
  simpa using h1
theorem cell_setCells_ne (w : World) (b o : Nat) (vs : List Value) (x : Addr) (h : ¬ x.block = b) : (w.setCells b o vs).cell? x = w.cell? x :=
  World.cell?_setCells_out b vs o w x (fun e => absurd e h)
theorem frozen_setCells (w : World) (b o : Nat) (vs : List Value) (x : Addr) : (w.setCells b o vs).frozen? x = w.frozen? x := World.frozen?_setCells b vs o w x
/-- an element of an array value, of one cell -/
theorem run_index_one {P : Program} (t : TypeId) {e : TypeId} {len : Nat} (ht : P.underlying t = some (.array len e)) {kk : IntKind} (he : P.underlying e = some (.int kk)) (hi1 : (P.info? e).map (·.size) = some 1)
    {cs : Array Value} {i : Nat} (hi : i < len) {v : Value} (hv : cs[i]? = some v) (k : IntKind) (W : World) : (Instr.index t (.agg cs) (.int k (i : Int))).run P W = .ok v W := by
  obtain ⟨j, hj, hs⟩ : ∃ j, P.info? e = some j ∧ j.size = 1 := by
    cases h : P.info? e with
    | none => rw [h] at hi1; cases hi1
    | some j => rw [h] at hi1; exact ⟨j, rfl, by simpa using hi1⟩
  simp [Instr.index, asIntOf, run_underlying ht, sizeOf, typeInfo, hj, hs, part, isAgg, run_underlying he, hv]
  intro h; omega
end Go.Proofs.Ythfgblchlgodmaa
