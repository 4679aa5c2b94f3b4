/- A region that draws its order, walked once in the order of the text: each operation leaves a fact on its value that lasts; it may use those of the operations that it waits for. -/
import Derived.Orders
import Derived.Tactics
set_option linter.unusedVariables false
namespace Go.Proofs.YtfhpnkmhppfeiaaDoor
open Go

/-- All that an operation waits for, through others too. -/
def pastAll (l : List Oper) : List (List Nat) :=
  l.foldl (fun acc o => acc ++ [(o.after.toList.filter (Region.binds .any)).flatMap fun e => e.on :: acc.getD e.on []]) []
/-- What is asked of the region's text; m: where the forced end begins. -/
def postOK (l : List Oper) (m : Nat) : Bool :=
  let past := pastAll l
  let n := l.length
  decide (m ≤ n) &&
  (List.range n).all (fun i =>
    ((past.getD i []).all fun j => decide (j < i)) &&
    (match l[i]? with
     | some o =>
       (match o.op with | .select .. => false | _ => true) &&
       (o.after.toList.filter (Region.binds .any)).all (fun e => (past.getD i []).contains e.on && (past.getD e.on []).all fun j => (past.getD i []).contains j) &&
       ((past.getD i []).all fun x => o.after.toList.any fun e => Region.binds .any e && (e.on == x || (past.getD e.on []).contains x)) &&
       (decide (m ≤ i) || ((List.range n).all fun j =>
         match l[j]? with
         | some oj => (match oj.dst with
           | some d => (!(o.looksAt l.toArray).contains d || (past.getD i []).contains j || (past.getD j []).contains i) && (j == i || decide (m ≤ j) || o.dst != some d)
           | none => true)
         | none => true))
     | none => true)) &&
  (List.range n).all (fun i => decide (i < m) || (List.range i).all fun j => (past.getD i []).contains j)

section
variable {P : Program} {l : List Oper} {m : Nat} {a0 : Act} {vals : Nat → Value}

def lexA : List Oper → Nat → (Nat → Value) → Act → Act
  | [], _, _, a => a
  | o :: r, i, vals, a => lexA r (i + 1) vals (a.put o.dst (vals i))

/-- What a frame holds when the operations L have come. -/
structure Came (l : List Oper) (a0 : Act) (m : Nat) (L : Nat → Bool) (vals : Nat → Value) (a : Act) : Prop where
  defers : a.defers = a0.defers
  old : ∀ t, (∀ j o, j < m → l[j]? = some o → L j = true → o.dst ≠ some t) → a.tmps[t]? = a0.tmps[t]?
  new : ∀ j o, j < m → l[j]? = some o → L j = true → ∀ t, o.dst = some t → a.tmps[t]? = (a0.tmps[t]?).map fun _ => vals j

theorem put_get (a : Act) (d : Option Tmp) (v : Value) (t : Nat) : (a.put d v).tmps[t]? = if d = some t then (a.tmps[t]?).map fun _ => v else a.tmps[t]? := by
  cases d with
  | none => simp [Act.put]
  | some d =>
    simp only [Act.put, Option.some.injEq]
    by_cases h : d = t
    · subst h
      rw [if_pos rfl]
      by_cases hl : d < a.tmps.size
      · simp [hl]
      · simp [hl]
    · rw [if_neg h, Array.getElem?_setIfInBounds_ne h]
theorem put_def (a : Act) (d : Option Tmp) (v : Value) : (a.put d v).defers = a.defers := by cases d <;> rfl

theorem Came.step {L : Nat → Bool} {a : Act} (h : Came l a0 m L vals a) {i : Nat} {o : Oper} (hi : l[i]? = some o) (him : i < m) (hL : L i = false)
    (hd : ∀ j oj, j < m → l[j]? = some oj → j ≠ i → ∀ t, o.dst = some t → oj.dst ≠ some t) (v : Value) :
    Came l a0 m (fun j => decide (j = i) || L j) (fun j => if j = i then v else vals j) (a.put o.dst v) := by
  refine ⟨by rw [put_def]; exact h.defers, fun t ht => ?_, fun j oj hj hoj hLj t ht => ?_⟩
  · have h1 : o.dst ≠ some t := ht i o him hi (by simp)
    rw [put_get, if_neg h1]
    exact h.old t fun j oj hj hoj hLj => ht j oj hj hoj (by simp [hLj])
  · by_cases hji : j = i
    · subst hji
      rw [hi] at hoj
      cases hoj
      simp only [if_true]
      rw [put_get, if_pos ht, h.old t fun k ok hk hok hLk e => ?_]
      by_cases hkj : k = j
      · subst hkj; rw [hL] at hLk; cases hLk
      · exact hd k ok hk hok hkj t ht e
    · simp only [if_neg hji]
      have hLj' : L j = true := by simpa [hji] using hLj
      rw [put_get, if_neg fun e => hd j oj hj hoj hji t e ht]
      exact h.new j oj hj hoj hLj' t ht

theorem Came.lex (hd : ∀ i o, i < m → l[i]? = some o → ∀ j oj, j < m → l[j]? = some oj → j ≠ i → ∀ t, o.dst = some t → oj.dst ≠ some t) :
    ∀ k, k ≤ m → m ≤ l.length → Came l a0 m (fun j => decide (j < k)) vals (lexA (l.take k) 0 vals a0) := by
  have snoc : ∀ (r : List Oper) (i : Nat) (o : Oper) (a : Act), lexA (r ++ [o]) i vals a = (lexA r i vals a).put o.dst (vals (i + r.length)) := by
    intro r
    induction r with
    | nil => intro i o a; rfl
    | cons x r ih => intro i o a; simp only [List.cons_append, lexA, ih, List.length_cons]; congr 2; omega
  intro k
  induction k with
  | zero => intro _ _; exact ⟨rfl, fun _ _ => rfl, fun j o hj ho hL => by simp at hL⟩
  | succ k ih =>
    intro hk hm
    have hkl : k < l.length := by omega
    have h := ih (by omega) hm
    have h2 := h.step (List.getElem?_eq_getElem hkl) (by omega) (by simp) (hd k _ (by omega) (List.getElem?_eq_getElem hkl)) (vals k)
    have e : lexA (l.take (k + 1)) 0 vals a0 = (lexA (l.take k) 0 vals a0).put (l[k]).dst (vals k) := by
      rw [List.take_add_one, List.getElem?_eq_getElem hkl, Option.toList_some, snoc, Nat.zero_add, List.length_take, Nat.min_eq_left (by omega)]
    rw [e]
    refine ⟨h2.defers, fun t ht => h2.old t fun j oj hj hoj hLj => ht j oj hj hoj ?_, fun j oj hj hoj hLj t ht => ?_⟩
    · simp only [Bool.or_eq_true, decide_eq_true_eq] at hLj ⊢; omega
    · have := h2.new j oj hj hoj (by simp only [Bool.or_eq_true, decide_eq_true_eq] at hLj ⊢; omega) t ht
      rw [this]
      by_cases hjk : j = k
      · subst hjk; simp
      · simp [hjk]

theorem Came.same {L L' : Nat → Bool} {a b : Act} (ha : Came l a0 m L vals a) (hb : Came l a0 m L' vals b) {t : Nat} (h : ∀ j o, j < m → l[j]? = some o → o.dst = some t → L j = L' j) : a.tmps[t]? = b.tmps[t]? := by
  by_cases he : ∃ j o, j < m ∧ l[j]? = some o ∧ o.dst = some t ∧ L j = true
  · obtain ⟨j, o, hj, ho, hd, hL⟩ := he
    rw [ha.new j o hj ho hL t hd, hb.new j o hj ho ((h j o hj ho hd) ▸ hL) t hd]
  · rw [ha.old t fun j o hj ho hL hd => he ⟨j, o, hj, ho, hd, hL⟩, hb.old t fun j o hj ho hL hd => he ⟨j, o, hj, ho, hd, (h j o hj ho hd).symm ▸ hL⟩]
theorem Came.eq {L L' : Nat → Bool} {a b : Act} (ha : Came l a0 m L vals a) (hb : Came l a0 m L' vals b) (h : ∀ j, j < m → L j = L' j) : a = b := by
  obtain ⟨ta, da⟩ := a
  obtain ⟨tb, db⟩ := b
  have hd : da = db := ha.defers.trans hb.defers.symm
  have ht : ta = tb := Array.ext_getElem? fun t => ha.same hb fun j o hj _ _ => h j hj
  rw [hd, ht]

/-- One step's end. -/
def StepQ (A : Act) (d : Option Tmp) (R : World → World → Prop) (w : World) (Ψ : Value → World → Prop) : Exit → Act → World → Prop
  | .normal, a', w' => ∃ v, a' = A.put d v ∧ R w w' ∧ Ψ v w'
  | _, _, _ => False

/-- The steps, in the order of the text; 'vals': whatever the operations ahead have yielded. -/
def Steps_ (P : Program) (ops : Array Oper) (R : Nat → World → World → Prop) (B : Nat → World → Prop) (C : World → Prop) (Ψ : List (Value → World → Prop)) (vals : Nat → Value) : List Oper → List (List Nat) → Nat → Act → Prop
  | [], _, _, _ => True
  | o :: r, pre, i, A =>
    (∀ w, C w → B i w → (∀ j ∈ pre.headD [], (Ψ.getD j (fun _ _ => True)) (vals j) w) → wpList P ops (StepQ A o.dst (R i) w (Ψ.getD i (fun _ _ => True))) [o] A w) ∧
    Steps_ P ops R B C Ψ vals r pre.tail (i + 1) (A.put o.dst (vals i))

theorem Steps_.at_ {ops : Array Oper} {R : Nat → World → World → Prop} {B : Nat → World → Prop} {C : World → Prop} {Ψ : List (Value → World → Prop)} : ∀ (r : List Oper) (pre : List (List Nat)) (i : Nat) (A : Act), Steps_ P ops R B C Ψ vals r pre i A →
    ∀ k o, r[k]? = some o → ∀ w, C w → B (i + k) w → (∀ j ∈ pre.getD k [], (Ψ.getD j (fun _ _ => True)) (vals j) w) → wpList P ops (StepQ (lexA (r.take k) i vals A) o.dst (R (i + k)) w (Ψ.getD (i + k) (fun _ _ => True))) [o] (lexA (r.take k) i vals A) w
  | [], _, _, _, _, k, o, hk => by simp at hk
  | x :: r, pre, i, A, h, 0, o, hk => by
    simp only [List.getElem?_cons_zero, Option.some.injEq] at hk
    subst hk
    intro w hC hB hp
    exact h.1 w hC hB fun j hj => hp j (by cases pre with | nil => simp at hj | cons p q => simpa using hj)
  | x :: r, pre, i, A, h, k + 1, o, hk => by
    intro w hC hB hp
    have := Steps_.at_ r pre.tail (i + 1) _ h.2 k o (by simpa using hk) w hC (by rw [show i + 1 + k = i + (k + 1) by omega]; exact hB) fun j hj => hp j (by cases pre with | nil => simp at hj | cons p q => simpa using hj)
    simp only [List.take_succ_cons, lexA]
    rw [show i + (k + 1) = i + 1 + k by omega]
    exact this

variable {Q : Exit → Act → World → Prop}
theorem wpOp_of_list {ops : Array Oper} {i : Nat} {o : Oper} {A a : Act} {w : World} {R : World → World → Prop} {Ψ : Value → World → Prop} (hi : ops[i]? = some o) (hsel : ∀ cs b, o.op ≠ .select cs b)
    (h : wpList P ops (StepQ A o.dst R w Ψ) [o] A w) (hsame : ∀ x ∈ o.looksAt ops, a.tmps[x]? = A.tmps[x]?) (hdef : a.defers = A.defers) {K : Act → World → Prop}
    (hK : ∀ v w', R w w' → Ψ v w' → K (a.put o.dst v) w') (hd : ∀ v v', A.put o.dst v = A.put o.dst v' → v = v' ∨ a.put o.dst v = a.put o.dst v') : wpOp P ops Q i K a w := by
  have he : execOp a.eval o = execOp A.eval o := execOp_congr o hsel fun x hx => by
    cases x with
    | tmp t =>
      have := hsame t (List.mem_append_left _ (List.mem_filterMap.2 ⟨.tmp t, by simpa using hx, rfl⟩))
      simp only [Act.eval, Array.getD_eq_getD_getElem?, this]
    | _ => rfl
  have hw : Region.wanted o (yielded ops a.tmps) = Region.wanted o (yielded ops A.tmps) := by
    unfold Region.wanted
    cases hg : o.guard with
    | none => rfl
    | some gw =>
      obtain ⟨g, want⟩ := gw
      have hy : yielded ops a.tmps g = yielded ops A.tmps g := by
        unfold yielded
        cases ht : (ops[g]?).bind (·.dst) with
        | none => rfl
        | some t =>
          have := hsame t (List.mem_append_right _ (by simp [hg, ht]))
          show (match a.tmps[t]? with | some (.bool b) => some b | _ => none) = match A.tmps[t]? with | some (.bool b) => some b | _ => none
          rw [this]
      simp only [hy]
  have fin : ∀ u w', StepQ A o.dst R w Ψ .normal (A.put o.dst u) w' → K (a.put o.dst u) w' := by
    rintro u w' ⟨v, e, hR, hΨ⟩
    rcases hd u v e with rfl | e'
    · exact hK _ _ hR hΨ
    · rw [e']; exact hK _ _ hR hΨ
  unfold wpOp
  simp only [hi, hw]
  simp only [wpList] at h
  split
  · rename_i hwant
    rw [if_pos hwant] at h
    rcases h with h | ⟨_, _, _, h⟩
    · refine .inl ?_
      unfold Oper.wp at *
      rw [he]
      generalize (execOp A.eval o).run P w = r at *
      cases r with
      | ok nx w' =>
        cases nx <;> simp only [Oper.upon] at h ⊢
        case value u => exact fin _ _ h
        case skip => exact fin _ _ h
        case defer d =>
          obtain ⟨v, e, _⟩ := h
          have := congrArg (fun x => x.defers.length) e
          simp [put_def] at this
        case enter f args =>
          refine Calls.mono h fun e w'' he => ?_
          cases e with
          | returned u => exact fin _ _ he
          | panicked c => exact he.elim
          | outgrown => obtain ⟨_, _, h⟩ := he; exact h.elim
        case row row args => exact Rows.mono h fun u w'' he => fin _ _ he
      | halt x w' => cases x <;> simp only [Oper.upon] at h ⊢; exact h.elim
    · exact h.elim
  · rename_i hwant
    rw [if_neg hwant] at h
    exact fin _ _ h

/-- What the look at the text says. -/
structure OK (l : List Oper) (m : Nat) : Prop where
  le : m ≤ l.length
  lt : ∀ i j, j ∈ (pastAll l).getD i [] → i < l.length → j < i
  sel : ∀ (j : Nat) (o : Oper) cs b, l[j]? = some o → o.op ≠ .select cs b
  on : ∀ i o, l[i]? = some o → ∀ e ∈ o.after, Region.binds .any e = true → e.on ∈ (pastAll l).getD i [] ∧ ∀ j ∈ (pastAll l).getD e.on [], j ∈ (pastAll l).getD i []
  back : ∀ i o, l[i]? = some o → ∀ x ∈ (pastAll l).getD i [], ∃ e ∈ o.after, Region.binds .any e = true ∧ (e.on = x ∨ x ∈ (pastAll l).getD e.on [])
  look : ∀ i o, i < m → l[i]? = some o → ∀ j oj, l[j]? = some oj → ∀ d, oj.dst = some d → d ∈ o.looksAt l.toArray → j ∈ (pastAll l).getD i [] ∨ i ∈ (pastAll l).getD j []
  dst : ∀ i o, i < m → l[i]? = some o → ∀ j oj, j < m → l[j]? = some oj → j ≠ i → ∀ t, o.dst = some t → oj.dst ≠ some t
  tail : ∀ i, m ≤ i → i < l.length → ∀ j, j < i → j ∈ (pastAll l).getD i []
theorem OK.of {l : List Oper} {m : Nat} (h : postOK l m = true) : OK l m := by
  simp only [postOK, Bool.and_eq_true, decide_eq_true_eq, List.all_eq_true, List.mem_range] at h
  obtain ⟨⟨h1, h2⟩, h3⟩ := h
  refine ⟨h1, fun i j hj hi => (h2 i hi).1 j hj, fun j o cs b hj e => ?_, fun i o hi e he hb => ?_, fun i o hi x hx => ?_, fun i o him hi j oj hj d hd hdl => ?_, fun i o him hi j oj hjm hj hne t ht e => ?_, fun i hmi hi j hj => ?_⟩
  · have := (h2 j (List.getElem?_eq_some_iff.1 hj).1).2
    rw [hj] at this
    simp [e] at this
  · have := (h2 i (List.getElem?_eq_some_iff.1 hi).1).2
    rw [hi] at this
    simp only [Bool.and_eq_true] at this
    have := List.all_eq_true.1 this.1.1.2 e (List.mem_filter.2 ⟨Array.mem_toList_iff.2 he, hb⟩)
    simp only [Bool.and_eq_true, List.all_eq_true, List.contains_iff_mem] at this
    exact this
  · have := (h2 i (List.getElem?_eq_some_iff.1 hi).1).2
    rw [hi] at this
    simp only [Bool.and_eq_true] at this
    have := List.all_eq_true.1 this.1.2 x hx
    obtain ⟨e, he, h⟩ := List.any_eq_true.1 this
    simp only [Bool.and_eq_true, Bool.or_eq_true, beq_iff_eq, List.contains_iff_mem] at h
    exact ⟨e, Array.mem_toList_iff.1 he, h⟩
  · have := (h2 i (List.getElem?_eq_some_iff.1 hi).1).2
    rw [hi] at this
    simp only [Bool.and_eq_true, Bool.or_eq_true, decide_eq_true_eq] at this
    have := (this.2.resolve_left (by omega))
    have := List.all_eq_true.1 this j (List.mem_range.2 (List.getElem?_eq_some_iff.1 hj).1)
    rw [hj] at this
    simp only [hd, Bool.and_eq_true, Bool.or_eq_true, Bool.not_eq_true', List.contains_iff_mem] at this
    rcases this.1 with (h | h) | h
    · have := List.contains_iff_mem.2 hdl
      rw [h] at this; cases this
    · exact .inl h
    · exact .inr h
  · have := (h2 i (List.getElem?_eq_some_iff.1 hi).1).2
    rw [hi] at this
    simp only [Bool.and_eq_true, Bool.or_eq_true, decide_eq_true_eq] at this
    have := (this.2.resolve_left (by omega))
    have := List.all_eq_true.1 this j (List.mem_range.2 (List.getElem?_eq_some_iff.1 hj).1)
    rw [hj] at this
    simp only [e, Bool.and_eq_true, Bool.or_eq_true, beq_iff_eq, decide_eq_true_eq, bne_iff_ne] at this
    rcases this.2 with (h | h) | h
    · exact hne h
    · omega
    · exact h ht
  · have := h3 i hi
    simp only [Bool.or_eq_true, decide_eq_true_eq, List.all_eq_true, List.mem_range, List.contains_iff_mem] at this
    exact this.resolve_left (by omega) j hj

/-- How many are still to come. -/
def toCome (n : Nat) (L : Nat → Bool) : Nat := ((List.range n).filter fun j => !L j).length
theorem toCome_step {n i : Nat} {L : Nat → Bool} (hi : i < n) (hL : L i = false) : toCome n (fun j => decide (j = i) || L j) < toCome n L := by
  unfold toCome
  have : (List.range n).filter (fun j => !(decide (j = i) || L j)) = ((List.range n).filter fun j => !L j).filter fun j => !decide (j = i) := by
    rw [List.filter_filter]
    congr 1
    funext j
    cases L j <;> simp
  rw [this]
  have hm : i ∈ (List.range n).filter fun j => !L j := List.mem_filter.2 ⟨List.mem_range.2 hi, by simp [hL]⟩
  have h1 := List.length_filter_lt_length_iff_exists (l := (List.range n).filter fun j => !L j) (p := fun j => !decide (j = i))
  exact h1.2 ⟨i, hm, by simp⟩
theorem toCome_pos {n i : Nat} {L : Nat → Bool} (hi : i < n) (hL : L i = false) : 0 < toCome n L :=
  List.length_pos_of_mem (List.mem_filter.2 ⟨List.mem_range.2 hi, by simp [hL]⟩)

theorem ready_mem {l : List Oper} {listed : Array Bool} {j : Nat} : j ∈ Region.ready .any l.toArray listed ↔ listed.getD j true = false ∧ ∃ o, l[j]? = some o ∧ ∀ e ∈ o.after, Region.binds .any e = true → listed.getD e.on false = true := by
  rw [mem_ready]
  simp

theorem getD_eq {listed : Array Bool} {n j : Nat} (hs : listed.size = n) (hj : j < n) : listed.getD j true = listed.getD j false := by
  rw [Array.getD_eq_getD_getElem?, Array.getD_eq_getD_getElem?, Array.getElem?_eq_getElem (by omega)]; rfl

/-- The forced end. -/
theorem tail_any (hok : OK l m) : ∀ (fuel k : Nat) (listed : Array Bool) (a : Act) (w : World), m ≤ k → k ≤ l.length → l.length - k ≤ fuel → listed.size = l.length → (∀ j, j < l.length → listed.getD j false = decide (j < k)) →
    wpList P l.toArray Q (l.drop k) a w → wpAny P .any l.toArray Q fuel listed a w := by
  intro fuel
  induction fuel with
  | zero =>
    intro k listed a w hmk hk hf hs hL h
    have hkl : k = l.length := by omega
    subst hkl
    rw [List.drop_length] at h
    refine ⟨?_, h⟩
    refine List.eq_nil_iff_forall_not_mem.2 fun j hj => ?_
    obtain ⟨h1, o, ho, _⟩ := ready_mem.1 hj
    have hjl := (List.getElem?_eq_some_iff.1 ho).1
    rw [getD_eq hs hjl, hL j hjl] at h1
    simp at h1; omega
  | succ fuel ih =>
    intro k listed a w hmk hk hf hs hL h
    have hready : ∀ j, j ∈ Region.ready .any l.toArray listed → j = k := fun j hj => by
      obtain ⟨h1, o, ho, hall⟩ := ready_mem.1 hj
      have hjl := (List.getElem?_eq_some_iff.1 ho).1
      rw [getD_eq hs hjl, hL j hjl] at h1
      simp only [decide_eq_false_iff_not, Nat.not_lt] at h1
      rcases Nat.lt_or_ge k j with hlt | hge
      · -- it waits for k
        exfalso
        obtain ⟨e, he, hb, hx⟩ := hok.back j o ho k (hok.tail j (by omega) hjl k hlt)
        have hle := hall e he hb
        have hel : e.on < l.length := Nat.lt_trans (hok.lt j e.on (hok.on j o ho e he hb).1 hjl) hjl
        rw [hL e.on hel, decide_eq_true_eq] at hle
        rcases hx with rfl | hx
        · omega
        · have := hok.lt e.on k hx hel; omega
      · omega
    rcases Nat.lt_or_ge k l.length with hkl | hkl
    · have hin : k ∈ Region.ready .any l.toArray listed := by
        refine ready_mem.2 ⟨by rw [getD_eq hs hkl, hL k hkl]; simp, l[k], List.getElem?_eq_getElem hkl, fun e he hb => ?_⟩
        have h1 := hok.lt k e.on (hok.on k _ (List.getElem?_eq_getElem hkl) e he hb).1 hkl
        rw [hL e.on (by omega)]
        simpa using h1
      refine ⟨fun h0 => by rw [h0] at hin; simp at hin, fun j hj => ?_⟩
      have := hready j hj
      subst this
      rw [List.drop_eq_getElem_cons hkl] at h
      simp only [wpList] at h
      have next : ∀ a' w', wpList P l.toArray Q (l.drop (j + 1)) a' w' → wpAny P .any l.toArray Q fuel (listed.setIfInBounds j true) a' w' := fun a' w' h' => by
        refine ih (j + 1) _ a' w' (by omega) hkl (by omega) (by simpa using hs) (fun i hi => ?_) h'
        by_cases hij : i = j
        · subst hij; simp [hs, hi]
        · rw [getD_set_ne false (Ne.symm hij), hL i hi]
          congr 1
          exact propext ⟨fun h => by omega, fun h => by omega⟩
      refine wpOp_mono (K := wpList P l.toArray Q (l.drop (j + 1))) next ?_
      unfold wpOp
      rw [show l.toArray[j]? = some l[j] by simp [hkl]]
      exact h
    · have hkl' : k = l.length := by omega
      subst hkl'
      rw [List.drop_length] at h
      refine ⟨fun _ => h, fun j hj => ?_⟩
      have := hready j hj
      obtain ⟨_, o, ho, _⟩ := ready_mem.1 hj
      have := (List.getElem?_eq_some_iff.1 ho).1
      omega

/-- **The operations ahead of m may come in whatever order their edges let; each leaves a fact that lasts.** -/
theorem post_any (hok : OK l m) {R : Nat → World → World → Prop} {B : Nat → World → Prop} {C : World → Prop} {Ψ : List (Value → World → Prop)} {pre : List (List Nat)}
    (hpre : ∀ i, i < m → ∀ j ∈ pre.getD i [], j ∈ (pastAll l).getD i [])
    (hC : ∀ i w w', i < m → C w → R i w w' → C w') (hΨ : ∀ (i j : Nat) v w w', i < m → j ≠ i → C w → R i w w' → (Ψ.getD j (fun _ _ => True)) v w → (Ψ.getD j (fun _ _ => True)) v w')
    (hBs : ∀ i j w w', i < m → j < m → j ≠ i → j ∉ (pastAll l).getD i [] → C w → R i w w' → B j w → B j w')
    (hstep : ∀ vals, Steps_ P l.toArray R B C Ψ vals (l.take m) pre 0 a0)
    (hend : ∀ vals w, C w → (∀ j, j < m → (Ψ.getD j (fun _ _ => True)) (vals j) w) → wpList P l.toArray Q (l.drop m) (lexA (l.take m) 0 vals a0) w) :
    ∀ (fuel : Nat) (listed : Array Bool) (vals : Nat → Value) (a : Act) (w : World), toCome m (fun j => listed.getD j false) + (l.length - m) ≤ fuel → listed.size = l.length →
      (∀ j, m ≤ j → j < l.length → listed.getD j false = false) → (∀ j, j < l.length → listed.getD j false = true → ∀ x ∈ (pastAll l).getD j [], listed.getD x false = true) →
      Came l a0 m (fun j => listed.getD j false) vals a → C w → (∀ j, j < m → listed.getD j false = false → B j w) → (∀ j, j < m → listed.getD j false = true → (Ψ.getD j (fun _ _ => True)) (vals j) w) → wpAny P .any l.toArray Q fuel listed a w := by
  have hm := hok.le
  intro fuel
  induction fuel with
  | zero =>
    intro listed vals a w hf hs ht hdc hcame hCw hBw hΨw
    have hall : ∀ j, j < m → listed.getD j false = true := fun j hj => by
      cases hL : listed.getD j false with
      | true => rfl
      | false => have := toCome_pos (L := fun j => listed.getD j false) hj hL; omega
    have ha : a = lexA (l.take m) 0 vals a0 := hcame.eq (Came.lex hok.dst m (Nat.le_refl _) hm) fun j hj => by simp [hall j hj, hj]
    subst ha
    refine tail_any hok 0 m listed _ w (Nat.le_refl _) hm (by omega) hs (fun j hj => ?_) (hend vals w hCw fun j hj => hΨw j hj (hall j hj))
    rcases Nat.lt_or_ge j m with h | h
    · simp [hall j h, h]
    · rw [ht j h hj]; simp [h]
  | succ fuel ih =>
    intro listed vals a w hf hs ht hdc hcame hCw hBw hΨw
    by_cases hall : ∀ j, j < m → listed.getD j false = true
    · have ha : a = lexA (l.take m) 0 vals a0 := hcame.eq (Came.lex hok.dst m (Nat.le_refl _) hm) fun j hj => by simp [hall j hj, hj]
      subst ha
      refine tail_any hok (fuel + 1) m listed _ w (Nat.le_refl _) hm (by omega) hs (fun j hj => ?_) (hend vals w hCw fun j hj => hΨw j hj (hall j hj))
      rcases Nat.lt_or_ge j m with h | h
      · simp [hall j h, h]
      · rw [ht j h hj]; simp [h]
    · have hex : ∃ i, i < m ∧ listed.getD i false = false ∧ ∀ j, j < i → listed.getD j false = true := by
        have key : ∀ n, n ≤ m → (∀ j, j < n → listed.getD j false = true) ∨ ∃ i, i < m ∧ listed.getD i false = false ∧ ∀ j, j < i → listed.getD j false = true := by
          intro n
          induction n with
          | zero => intro _; exact .inl fun j hj => by omega
          | succ n ihn =>
            intro hn
            rcases ihn (by omega) with h | h
            · cases hL : listed.getD n false with
              | true =>
                refine .inl fun j hj => ?_
                rcases Nat.lt_or_ge j n with h' | h'
                · exact h j h'
                · obtain rfl : j = n := by omega
                  exact hL
              | false => exact .inr ⟨n, by omega, hL, h⟩
            · exact .inr h
        rcases key m (Nat.le_refl _) with h | h
        · exact absurd h hall
        · exact h
      obtain ⟨i0, hi0, hL0, hlow⟩ := hex
      have hin : i0 ∈ Region.ready .any l.toArray listed := by
        refine ready_mem.2 ⟨by rw [getD_eq hs (by omega)]; exact hL0, l[i0], List.getElem?_eq_getElem (by omega), fun e he hb => ?_⟩
        exact hlow _ (hok.lt i0 e.on (hok.on i0 _ (List.getElem?_eq_getElem (by omega)) e he hb).1 (by omega))
      refine ⟨fun h0 => by rw [h0] at hin; simp at hin, fun i hi => ?_⟩
      obtain ⟨hLi, o, ho, hedge⟩ := ready_mem.1 hi
      have hil := (List.getElem?_eq_some_iff.1 ho).1
      rw [getD_eq hs hil] at hLi
      have hpast : ∀ x ∈ (pastAll l).getD i [], listed.getD x false = true := fun x hx => by
        obtain ⟨e, he, hb, hh⟩ := hok.back i o ho x hx
        have h1 := hedge e he hb
        rcases hh with rfl | hh
        · exact h1
        · exact hdc e.on (Nat.lt_trans (hok.lt i e.on (hok.on i o ho e he hb).1 hil) hil) h1 x hh
      have him : i < m := by
        rcases Nat.lt_or_ge i m with h | h
        · exact h
        · have := hpast i0 (hok.tail i h hil i0 (by omega))
          rw [hL0] at this; cases this
      have hst := Steps_.at_ (l.take m) pre 0 a0 (hstep vals) i o (by rw [List.getElem?_take, if_pos him]; exact ho) w hCw (by rw [Nat.zero_add]; exact hBw i him hLi) (fun j hj => hΨw j (by have := hok.lt i j (hpre i him j hj) hil; omega) (hpast j (hpre i him j hj)))
      rw [List.take_take, Nat.min_eq_left (by omega), Nat.zero_add] at hst
      have hlex := Came.lex (l := l) (a0 := a0) (vals := vals) hok.dst i (by omega) hm
      have hlook : ∀ x ∈ o.looksAt l.toArray, a.tmps[x]? = (lexA (l.take i) 0 vals a0).tmps[x]? := fun x hx => by
        refine hcame.same hlex fun j oj hj hoj hd => ?_
        rcases hok.look i o him ho j oj hoj x hd hx with h | h
        · rw [hpast j h]
          have := hok.lt i j h hil
          simp [this]
        · have hji := hok.lt j i h (by omega)
          have : listed.getD j false = false := by
            cases hL : listed.getD j false with
            | false => rfl
            | true => have := hdc j (by omega) hL i h; rw [hLi] at this; cases this
          rw [this]
          simp; omega
      refine wpOp_of_list (by simpa using ho) (fun cs b => hok.sel i o cs b ho) hst hlook (hcame.defers.trans hlex.defers.symm) (fun v w' hR hv => ?_) (fun v v' e => ?_)
      · have hset : ∀ j, j < l.length → (listed.setIfInBounds i true).getD j false = (decide (j = i) || listed.getD j false) := fun j hj => by
          by_cases hji : j = i
          · subst hji; simp [hs, hj]
          · rw [getD_set_ne false (Ne.symm hji)]; simp [hji]
        have hnew := hcame.step ho him hLi (fun j oj hj hoj hne t ht => hok.dst i o him ho j oj hj hoj hne t ht) v
        refine ih _ (fun j => if j = i then v else vals j) _ w' ?_ (by simpa using hs) (fun j hmj hj => ?_) (fun j hj hLj x hx => ?_) ?_ (hC i w w' him hCw hR) (fun j hj hLj => ?_) (fun j hj hLj => ?_)
        · have h1 := toCome_step (L := fun j => listed.getD j false) him hLi
          have h2 : toCome m (fun j => (listed.setIfInBounds i true).getD j false) = toCome m (fun j => decide (j = i) || listed.getD j false) := by
            unfold toCome
            congr 1
            refine List.filter_congr fun j hj => ?_
            show (!((listed.setIfInBounds i true).getD j false)) = !(decide (j = i) || listed.getD j false)
            rw [hset j (by have := List.mem_range.1 hj; omega)]
          omega
        · rw [hset j hj, ht j hmj hj]; simp; omega
        · rw [hset j hj] at hLj
          have hxl : x < l.length := Nat.lt_trans (hok.lt j x hx hj) hj
          rw [hset x hxl]
          simp only [Bool.or_eq_true, decide_eq_true_eq] at hLj ⊢
          rcases hLj with rfl | hLj
          · exact .inr (hpast x hx)
          · exact .inr (hdc j hj hLj x hx)
        · exact ⟨hnew.defers, fun t ht => hnew.old t fun j oj hj hoj hLj => ht j oj hj hoj (by rw [hset j (by omega)]; exact hLj), fun j oj hj hoj hLj t hd => hnew.new j oj hj hoj (by rw [hset j (by omega)] at hLj; exact hLj) t hd⟩
        · rw [hset j (by omega)] at hLj
          simp only [Bool.or_eq_false_iff, decide_eq_false_iff_not] at hLj
          refine hBs i j w w' him hj hLj.1 (fun hp => ?_) hCw hR (hBw j hj hLj.2)
          have := hpast j hp
          rw [hLj.2] at this; cases this
        · by_cases hji : j = i
          · subst hji; simpa using hv
          · rw [hset j (by omega)] at hLj
            simp only [hji, decide_false, Bool.false_or] at hLj
            simp only [if_neg hji]
            exact hΨ i j _ w w' him hji hCw hR (hΨw j hj hLj)
      · cases hd : o.dst with
        | none => exact .inr rfl
        | some d =>
          rw [hd] at e
          have h1 := congrArg (fun x => x.tmps[d]?) e
          simp only [put_get, if_true] at h1
          cases hA : (lexA (l.take i) 0 vals a0).tmps[d]? with
          | some u => rw [hA] at h1; simp at h1; exact .inl h1
          | none =>
            refine .inr ?_
            have e1 : a.tmps[d]? = none := by
              have x1 : (a.tmps[d]?).isSome = (a0.tmps[d]?).isSome := by
                by_cases he : ∃ j o, j < m ∧ l[j]? = some o ∧ o.dst = some d ∧ listed.getD j false = true
                · obtain ⟨j, o, hj, ho, hd', hL⟩ := he
                  rw [hcame.new j o hj ho hL d hd']; simp
                · rw [hcame.old d fun j o hj ho hL hd' => he ⟨j, o, hj, ho, hd', hL⟩]
              have x2 : ((lexA (l.take i) 0 vals a0).tmps[d]?).isSome = (a0.tmps[d]?).isSome := by
                by_cases he : ∃ j o, j < m ∧ l[j]? = some o ∧ o.dst = some d ∧ decide (j < i) = true
                · obtain ⟨j, o, hj, ho, hd', hL⟩ := he
                  rw [hlex.new j o hj ho hL d hd']; simp
                · rw [hlex.old d fun j o hj ho hL hd' => he ⟨j, o, hj, ho, hd', hL⟩]
              rw [hA] at x2
              rw [← x2] at x1
              simpa using x1
            have hge : a.tmps.size ≤ d := Array.getElem?_eq_none_iff.1 e1
            simp [Act.put, Array.setIfInBounds, Nat.not_lt.2 hge]

theorem wp_region_post {id : Nat} {w : World} (m : Nat) {R : Nat → World → World → Prop} {B : Nat → World → Prop} {C : World → Prop} (Ψ : List (Value → World → Prop)) (pre : List (List Nat)) (hmix : P.follows .mixedOrders = true)
    (hok0 : postOK l m = true) (hP : ((List.range m).all fun i => (pre.getD i []).all fun j => ((pastAll l).getD i []).contains j) = true)
    (hC : ∀ i w w', i < m → C w → R i w w' → C w') (hΨ : ∀ (i j : Nat) v w w', i < m → j ≠ i → C w → R i w w' → (Ψ.getD j (fun _ _ => True)) v w → (Ψ.getD j (fun _ _ => True)) v w')
    (hBs : ∀ i j w w', i < m → j < m → j ≠ i → j ∉ (pastAll l).getD i [] → C w → R i w w' → B j w → B j w') (h0 : C w.drew) (hB0 : ∀ j, j < m → B j w.drew)
    (hstep : ∀ vals, Steps_ P l.toArray R B C Ψ vals (l.take m) pre 0 a0)
    (hend : ∀ vals w, C w → (∀ j, j < m → (Ψ.getD j (fun _ _ => True)) (vals j) w) → wpList P l.toArray Q (l.drop m) (lexA (l.take m) 0 vals a0) w) :
    (Code.region id l.toArray true).wp P Q a0 w := by
  have hok := OK.of hok0
  refine wp_region_any hmix (post_any hok ?_ hC hΨ hBs hstep hend _ _ (fun _ => undef) a0 _ ?_ (by simp) (fun j _ hj => by simp [hj]) (fun j hj hL => by simp [hj] at hL) ⟨rfl, fun _ _ => rfl, fun j o hj ho hL => ?_⟩ h0 (fun j hj _ => hB0 j hj) (fun j hj hL => ?_))
  · intro i hi j hj
    have := List.all_eq_true.1 hP i (List.mem_range.2 hi)
    exact List.contains_iff_mem.1 (List.all_eq_true.1 this j hj)
  · have : toCome m (fun j => (Array.replicate l.toArray.size false).getD j false) ≤ m := by
      unfold toCome
      have := List.length_filter_le (fun j => !(Array.replicate l.toArray.size false).getD j false) (List.range m)
      simpa using this
    have := hok.le
    simp only [List.size_toArray] at *
    omega
  · have := (List.getElem?_eq_some_iff.1 ho).1
    simp [this] at hL
  · have := hok.le
    have h2 : j < l.length := by omega
    simp [h2] at hL
end
end Go.Proofs.YtfhpnkmhppfeiaaDoor
