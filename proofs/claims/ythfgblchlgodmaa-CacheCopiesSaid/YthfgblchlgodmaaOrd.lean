/- A region that draws its order, walked order by order with the plain list's laws: one step where one operation may come up, a branch where two may, and the rest as one list where the order is forced. Conditions: those of each theorem; the programs mix orders. -/
import Derived.Test.YthfgblchlgodmaaLib
import Derived.StillTailTactics
import Derived.Deep.DeepCutAuto
namespace Go.Proofs.Ythfgblchlgodmaa
open Go.RowKit

section
variable {P : Program} {ops : Array Oper} {md : Region.Mode} {Q : Exit → Act → World → Prop}

theorem upon_then {o : Oper} {a : Act} {K next : Act → World → Prop} {r : Result Next} (h : o.upon P a next (Exit.then K Q) r) : o.upon P a next Q r := by
  cases r with
  | ok n w =>
    cases n with
    | enter f args =>
      refine Calls.mono (h : Calls P f args w _) (fun e w'' hr => ?_)
      cases e with
      | returned v => exact hr
      | panicked c => exact hr
      | outgrown => obtain ⟨a', w', hq⟩ := hr; exact ⟨a', w', hq⟩
    | _ => exact h
  | halt x w => cases x <;> exact h
theorem wpOp_of_list {i : Nat} {o : Oper} {K : Act → World → Prop} {a : Act} {w : World} (ho : ops[i]? = some o) (h : wpList P ops (Exit.then K Q) [o] a w) : wpOp P ops Q i K a w := by
  unfold wpOp
  simp only [ho]
  unfold wpList at h
  split
  · rename_i hw
    rw [if_pos hw] at h
    rcases h with h | ⟨h1, h2⟩
    · exact .inl (upon_then (K := K) h)
    · obtain ⟨a', w', hq⟩ := h2
      exact .inr ⟨h1, a', w', hq⟩
  · rename_i hw
    rw [if_neg hw] at h
    exact h
/-- one operation alone may come up -/
theorem any_one (i : Nat) {o : Oper} {fuel : Nat} {listed : Array Bool} {a : Act} {w : World} (hr : Region.ready md ops listed = [i]) (ho : ops[i]? = some o)
    (h : wpList P ops (Exit.then (wpAny P md ops Q fuel (listed.setIfInBounds i true)) Q) [o] a w) : wpAny P md ops Q (fuel + 1) listed a w :=
  wpAny_all hr (by simp) (fun j hj => by
    obtain rfl : j = i := by simpa using hj
    exact wpOp_of_list ho h)
/-- two may come up -/
theorem any_two (i j : Nat) {o p : Oper} {fuel : Nat} {listed : Array Bool} {a : Act} {w : World} (hr : Region.ready md ops listed = [i, j]) (ho : ops[i]? = some o) (hp : ops[j]? = some p)
    (h1 : wpList P ops (Exit.then (wpAny P md ops Q fuel (listed.setIfInBounds i true)) Q) [o] a w)
    (h2 : wpList P ops (Exit.then (wpAny P md ops Q fuel (listed.setIfInBounds j true)) Q) [p] a w) : wpAny P md ops Q (fuel + 1) listed a w :=
  wpAny_all hr (by simp) (fun k hk => by
    rcases (by simpa using hk : k = i ∨ k = j) with rfl | rfl
    · exact wpOp_of_list ho h1
    · exact wpOp_of_list hp h2)
theorem any_three (i j k : Nat) {o p q : Oper} {fuel : Nat} {listed : Array Bool} {a : Act} {w : World} (hr : Region.ready md ops listed = [i, j, k]) (ho : ops[i]? = some o) (hp : ops[j]? = some p) (hq : ops[k]? = some q)
    (h1 : wpList P ops (Exit.then (wpAny P md ops Q fuel (listed.setIfInBounds i true)) Q) [o] a w)
    (h2 : wpList P ops (Exit.then (wpAny P md ops Q fuel (listed.setIfInBounds j true)) Q) [p] a w)
    (h3 : wpList P ops (Exit.then (wpAny P md ops Q fuel (listed.setIfInBounds k true)) Q) [q] a w) : wpAny P md ops Q (fuel + 1) listed a w :=
  wpAny_all hr (by simp) (fun l hl => by
    rcases (by simpa using hl : l = i ∨ l = j ∨ l = k) with rfl | rfl | rfl
    · exact wpOp_of_list ho h1
    · exact wpOp_of_list hp h2
    · exact wpOp_of_list hq h3)
/-- the order that is left is forced -/
def forcedB (md : Region.Mode) (ops : Array Oper) : List Nat → Array Bool → Bool
  | [], listed => (Region.ready md ops listed).isEmpty
  | i :: r, listed => decide (Region.ready md ops listed = [i]) && forcedB md ops r (listed.setIfInBounds i true)
theorem any_forced : ∀ (idx : List Nat) {l : List Oper} {listed : Array Bool} {a : Act} {w : World}, idx.map (fun i => ops[i]?) = l.map some → forcedB md ops idx listed = true → wpList P ops Q l a w → wpAny P md ops Q l.length listed a w
  | [], l, listed, a, w, hl, hf, h => by
    cases l with
    | nil => exact ⟨by simpa [forcedB] using hf, h⟩
    | cons _ _ => simp at hl
  | i :: r, l, listed, a, w, hl, hf, h => by
    cases l with
    | nil => simp at hl
    | cons o l =>
      simp only [List.map_cons, List.cons.injEq] at hl
      simp only [forcedB, Bool.and_eq_true, decide_eq_true_eq] at hf
      refine wpAny_all hf.1 (by simp) (fun j hj => ?_)
      obtain rfl : j = i := by simpa using hj
      have hw : wpOp P ops Q j (wpList P ops Q l) a w := by unfold wpOp; simp only [hl.1]; exact h
      exact wpOp_mono (fun a' w' h' => any_forced r hl.2 hf.2 h') hw
/-- the same, the list read off the region's own text: 'simp only [pick]' writes it out -/
def pick (l : List Oper) (idx : List Nat) : List Oper := idx.filterMap (fun i => l[i]?)
theorem any_rest (idx : List Nat) {l0 : List Oper} {listed : Array Bool} {a : Act} {w : World} (hi : (idx.map (fun i => l0.toArray[i]?)).all (·.isSome) = true) (hf : forcedB md l0.toArray idx listed = true)
    (h : wpList P l0.toArray Q (pick l0 idx) a w) : wpAny P md l0.toArray Q idx.length listed a w := by
  have e : idx.map (fun i => l0.toArray[i]?) = (pick l0 idx).map some := by
    clear hf h
    unfold pick
    induction idx with
    | nil => rfl
    | cons i r ih =>
      simp only [List.map_cons, List.all_cons, Bool.and_eq_true] at hi
      have ih' := ih hi.2
      cases hx : l0[i]? with
      | none => rw [List.getElem?_toArray, hx] at hi; simp at hi
      | some o => rw [List.map_cons, ih', List.filterMap_cons, hx, List.getElem?_toArray, hx, List.map_cons]
  have hl : (pick l0 idx).length = idx.length := by
    have := congrArg List.length e
    simpa using this.symm
  have := any_forced (P := P) (md := md) (ops := l0.toArray) (Q := Q) idx (l := pick l0 idx) e hf h
  rwa [hl] at this
theorem any_region {id : Nat} {l : List Oper} {a : Act} {w : World} (hm : P.follows .mixedOrders = true)
    (h : wpAny P .any l.toArray Q l.length (Array.replicate l.length false) a w.drew) : (Code.region id l.toArray true).wp P Q a w :=
  wp_region_any hm (by simpa using h)
end
/-! A region by an invariant: whatever may come up keeps it. -/
section
variable {P : Program} {ops : Array Oper} {md : Region.Mode} {Q : Exit → Act → World → Prop}
theorem upon_monoQ {Q' : Exit → Act → World → Prop} (hq : ∀ e a w, Q e a w → Q' e a w) {o : Oper} {a : Act} {next next' : Act → World → Prop} (hn : ∀ a w, next a w → next' a w) {r : Result Next} (h : o.upon P a next Q r) : o.upon P a next' Q' r := by
  cases r with
  | ok n w =>
    cases n with
    | enter f args =>
      refine Calls.mono (h : Calls P f args w _) (fun e w'' hr => ?_)
      cases e with
      | returned v => exact hn _ _ hr
      | panicked c => exact hq _ _ _ hr
      | outgrown => obtain ⟨a', w', h'⟩ := hr; exact ⟨a', w', hq _ _ _ h'⟩
    | row r args => exact Rows.mono (h : Rows P r args w _) (fun v w'' hr => hn _ _ hr)
    | value v => exact hn _ _ h
    | skip => exact hn _ _ h
    | defer d => exact hn _ _ h
    | _ => exact (h : False).elim
  | halt x w =>
    cases x with
    | panic v => exact hq _ _ _ h
    | _ => exact (h : False).elim
theorem wpList_monoQ {Q' : Exit → Act → World → Prop} (hq : ∀ e a w, Q e a w → Q' e a w) : ∀ {l : List Oper} {a : Act} {w : World}, wpList P ops Q l a w → wpList P ops Q' l a w
  | [], _, _, h => hq _ _ _ h
  | o :: l, a, w, h => by
    unfold wpList at h ⊢
    split
    · rename_i hw
      rw [if_pos hw] at h
      rcases h with h | ⟨h1, a', w', h2⟩
      · exact .inl (upon_monoQ hq (fun a w h' => wpList_monoQ hq h') h)
      · exact .inr ⟨h1, a', w', hq _ _ _ h2⟩
    · rename_i hw
      rw [if_neg hw] at h
      exact wpList_monoQ hq h
def left (listed : Array Bool) : Nat := listed.toList.countP (fun b => !b)
theorem left_set {listed : Array Bool} {i : Nat} (h : listed.getD i true = false) : left (listed.setIfInBounds i true) + 1 = left listed := by
  obtain ⟨l⟩ := listed
  simp only [left, List.setIfInBounds_toArray]
  simp only [Array.getD_eq_getD_getElem?, List.getElem?_toArray] at h
  induction l generalizing i with
  | nil => simp at h
  | cons b l ih =>
    cases i with
    | zero => simp at h; subst h; simp
    | succ i =>
      simp at h
      have := ih (i := i) (by simpa using h)
      simp only [List.set_cons_succ, List.countP_cons]
      omega
theorem any_inv (Inv : Array Bool → Act → World → Prop)
    (step : ∀ listed a w i oi, ops[i]? = some oi → listed.getD i true = false → (∀ e ∈ oi.after, Region.binds md e = true → listed.getD e.on false = true) → Inv listed a w →
      wpList P ops (Exit.then (fun a' w' => Inv (listed.setIfInBounds i true) a' w') Q) [oi] a w)
    (done : ∀ listed a w, Region.ready md ops listed = [] → Inv listed a w → Q .normal a w) :
    ∀ (fuel : Nat) (listed : Array Bool) (a : Act) (w : World), left listed ≤ fuel → Inv listed a w → wpAny P md ops Q fuel listed a w
  | 0, listed, a, w, hf, h => by
    have hr : Region.ready md ops listed = [] := by
      cases hx : Region.ready md ops listed with
      | nil => rfl
      | cons i r =>
        have hi : i ∈ Region.ready md ops listed := by rw [hx]; simp
        have := left_set (mem_ready.1 hi).1
        omega
    exact ⟨hr, done _ _ _ hr h⟩
  | fuel + 1, listed, a, w, hf, h => by
    refine ⟨fun hr => done _ _ _ hr h, fun i hi => ?_⟩
    obtain ⟨hun, oi, hoi, hall⟩ := mem_ready.1 hi
    have hl := left_set hun
    exact wpOp_mono (fun a' w' h' => any_inv Inv step done fuel _ a' w' (by omega) h') (wpOp_of_list hoi (step listed a w i oi hoi hun hall h))
/-- each binding edge leads back -/
def backB (md : Region.Mode) (l : List Oper) : Bool := (List.range l.length).all fun i => match l[i]? with
  | some o => o.after.all fun e => !Region.binds md e || decide (e.on < i)
  | none => true
theorem all_listed {l : List Oper} (hb : backB md l = true) {listed : Array Bool} (hsz : listed.size = l.length) (hr : Region.ready md l.toArray listed = []) : ∀ i, i < l.length → listed.getD i false = true := by
  intro i
  induction i using Nat.strongRecOn with
  | _ i ih =>
    intro hi
    cases hx : listed.getD i false with
    | true => rfl
    | false =>
      exfalso
      have hmem : i ∈ Region.ready md l.toArray listed := by
        refine mem_ready.2 ⟨?_, l[i], by simp [hi], fun e he hbd => ?_⟩
        · simp [Array.getD_eq_getD_getElem?, hsz, hi] at hx ⊢; exact hx
        · have h1 := List.all_eq_true.1 hb i (List.mem_range.2 hi)
          simp only [List.getElem?_eq_getElem hi] at h1
          have h2 := Array.all_eq_true'.1 h1 e he
          simp only [hbd, Bool.not_true, Bool.false_or, decide_eq_true_eq] at h2
          exact ih e.on h2 (by omega)
      rw [hr] at hmem
      cases hmem
def Closed (l : List Oper) (listed : Array Bool) : Prop := ∀ (j : Nat) (oj : Oper), l[j]? = some oj → listed.getD j false = true → ∀ e ∈ oj.after, Region.binds .any e = true → listed.getD e.on false = true
theorem Closed.later {l : List Oper} {listed : Array Bool} (hcl : Closed l listed) (j : Nat) {oj : Oper} (hj : l[j]? = some oj) (e : Edge) (he : e ∈ oj.after) (hb : Region.binds .any e = true) (hno : listed.getD e.on false = false) : listed.getD j false = false := by
  cases hx : listed.getD j false with
  | false => rfl
  | true => rw [hcl j oj hj hx e he hb] at hno; cases hno
theorem any_region_inv {id : Nat} {l : List Oper} {a : Act} {w : World} (hm : P.follows .mixedOrders = true) (hb : backB .any l = true) (Inv : Array Bool → Act → World → Prop)
    (h0 : Inv (Array.replicate l.length false) a w.drew)
    (step : ∀ listed a w i oi, l[i]? = some oi → listed.size = l.length → Closed l listed → listed.getD i false = false → (∀ e ∈ oi.after, Region.binds .any e = true → listed.getD e.on false = true) → Inv listed a w →
      wpList P l.toArray (Exit.then (Inv (listed.setIfInBounds i true)) Q) [oi] a w)
    (done : ∀ listed a w, (∀ i, i < l.length → listed.getD i false = true) → Inv listed a w → Q .normal a w) : (Code.region id l.toArray true).wp P Q a w := by
  refine any_region hm (any_inv (fun listed a w => (listed.size = l.length ∧ Closed l listed) ∧ Inv listed a w) (fun listed a w i oi ho h1 h2 h3 => ?_) (fun listed a w hr h => done _ _ _ (all_listed hb h.1.1 hr) h.2) _ _ _ _ (by simp [left, List.countP_replicate]) ⟨⟨by simp, fun j oj _ hl => by rw [getD_replicate_false] at hl; cases hl⟩, h0⟩)
  have hoi : l[i]? = some oi := by simpa using ho
  have := step listed a w i oi hoi h3.1.1 h3.1.2 (getD_both h1) h2 h3.2
  refine wpList_monoQ ?_ this
  intro e a' w' hq
  cases e with
  | normal =>
    refine ⟨⟨by simpa using h3.1.1, fun j oj hj hl e he hbd => ?_⟩, hq⟩
    by_cases hij : i = j
    · subst hij
      rw [hoi] at hj
      obtain rfl := Option.some.inj hj
      exact getD_set_true (h2 e he hbd)
    · rw [getD_set_ne false hij] at hl
      exact getD_set_true (h3.1.2 j oj hj hl e he hbd)
  | _ => exact hq
end
end Go.Proofs.Ythfgblchlgodmaa
