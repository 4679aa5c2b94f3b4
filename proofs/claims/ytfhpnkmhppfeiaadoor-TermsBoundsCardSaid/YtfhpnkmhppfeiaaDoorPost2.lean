/- A region that draws its order, whose end is not forced; the same in a round of a loop over a function. -/
import Derived.Test.YtfhpnkmhppfeiaaDoorPost
import Derived.OrdersIn
import Derived.RangeFuncCalls
set_option linter.unusedVariables false
namespace Go.Proofs.YtfhpnkmhppfeiaaDoor
open Go
section
variable {P : Program} {l : List Oper} {m : Nat} {a0 : Act} {vals : Nat → Value} {Q : Exit → Act → World → Prop}
def postOK2 (l : List Oper) (m : Nat) : Bool :=
  let past := pastAll l
  let n := l.length
  decide (m ≤ n) &&
  (List.range n).all (fun i =>
    ((past.getD i []).all fun j => decide (j < i)) &&
    (match l[i]? with
     | some o =>
       (match o.op with | .select .. => false | _ => true) &&
       (o.after.toList.filter (Region.binds .any)).all (fun e => (past.getD i []).contains e.on && (past.getD e.on []).all fun j => (past.getD i []).contains j) &&
       ((past.getD i []).all fun x => o.after.toList.any fun e => Region.binds .any e && (e.on == x || (past.getD e.on []).contains x)) &&
       (decide (m ≤ i) || ((List.range n).all fun j =>
         match l[j]? with
         | some oj => (match oj.dst with
           | some d => (!(o.looksAt l.toArray).contains d || (past.getD i []).contains j || (past.getD j []).contains i) && (j == i || decide (m ≤ j) || o.dst != some d)
           | none => true)
         | none => true))
     | none => true)) &&
  (List.range n).all (fun i => decide (i < m) || (List.range m).all fun j => (past.getD i []).contains j)
structure OK2 (l : List Oper) (m : Nat) : Prop where
  le : m ≤ l.length
  lt : ∀ i j, j ∈ (pastAll l).getD i [] → i < l.length → j < i
  sel : ∀ (j : Nat) (o : Oper) cs b, l[j]? = some o → o.op ≠ .select cs b
  on : ∀ i o, l[i]? = some o → ∀ e ∈ o.after, Region.binds .any e = true → e.on ∈ (pastAll l).getD i [] ∧ ∀ j ∈ (pastAll l).getD e.on [], j ∈ (pastAll l).getD i []
  back : ∀ i o, l[i]? = some o → ∀ x ∈ (pastAll l).getD i [], ∃ e ∈ o.after, Region.binds .any e = true ∧ (e.on = x ∨ x ∈ (pastAll l).getD e.on [])
  look : ∀ i o, i < m → l[i]? = some o → ∀ j oj, l[j]? = some oj → ∀ d, oj.dst = some d → d ∈ o.looksAt l.toArray → j ∈ (pastAll l).getD i [] ∨ i ∈ (pastAll l).getD j []
  dst : ∀ i o, i < m → l[i]? = some o → ∀ j oj, j < m → l[j]? = some oj → j ≠ i → ∀ t, o.dst = some t → oj.dst ≠ some t
  tail : ∀ i, m ≤ i → i < l.length → ∀ j, j < m → j ∈ (pastAll l).getD i []
theorem OK2.of {l : List Oper} {m : Nat} (h : postOK2 l m = true) : OK2 l m := by
  simp only [postOK2, Bool.and_eq_true, decide_eq_true_eq, List.all_eq_true, List.mem_range] at h
  obtain ⟨⟨h1, h2⟩, h3⟩ := h
  refine ⟨h1, fun i j hj hi => (h2 i hi).1 j hj, fun j o cs b hj e => ?_, fun i o hi e he hb => ?_, fun i o hi x hx => ?_, fun i o him hi j oj hj d hd hdl => ?_, fun i o him hi j oj hjm hj hne t ht e => ?_, fun i hmi hi j hj => ?_⟩
  · have := (h2 j (List.getElem?_eq_some_iff.1 hj).1).2
    rw [hj] at this
    simp [e] at this
  · have := (h2 i (List.getElem?_eq_some_iff.1 hi).1).2
    rw [hi] at this
    simp only [Bool.and_eq_true] at this
    have := List.all_eq_true.1 this.1.1.2 e (List.mem_filter.2 ⟨Array.mem_toList_iff.2 he, hb⟩)
    simp only [Bool.and_eq_true, List.all_eq_true, List.contains_iff_mem] at this
    exact this
  · have := (h2 i (List.getElem?_eq_some_iff.1 hi).1).2
    rw [hi] at this
    simp only [Bool.and_eq_true] at this
    have := List.all_eq_true.1 this.1.2 x hx
    obtain ⟨e, he, h⟩ := List.any_eq_true.1 this
    simp only [Bool.and_eq_true, Bool.or_eq_true, beq_iff_eq, List.contains_iff_mem] at h
    exact ⟨e, Array.mem_toList_iff.1 he, h⟩
  · have := (h2 i (List.getElem?_eq_some_iff.1 hi).1).2
    rw [hi] at this
    simp only [Bool.and_eq_true, Bool.or_eq_true, decide_eq_true_eq] at this
    have := (this.2.resolve_left (by omega))
    have := List.all_eq_true.1 this j (List.mem_range.2 (List.getElem?_eq_some_iff.1 hj).1)
    rw [hj] at this
    simp only [hd, Bool.and_eq_true, Bool.or_eq_true, Bool.not_eq_true', List.contains_iff_mem] at this
    rcases this.1 with (h | h) | h
    · have := List.contains_iff_mem.2 hdl
      rw [h] at this; cases this
    · exact .inl h
    · exact .inr h
  · have := (h2 i (List.getElem?_eq_some_iff.1 hi).1).2
    rw [hi] at this
    simp only [Bool.and_eq_true, Bool.or_eq_true, decide_eq_true_eq] at this
    have := (this.2.resolve_left (by omega))
    have := List.all_eq_true.1 this j (List.mem_range.2 (List.getElem?_eq_some_iff.1 hj).1)
    rw [hj] at this
    simp only [e, Bool.and_eq_true, Bool.or_eq_true, beq_iff_eq, decide_eq_true_eq, bne_iff_ne] at this
    rcases this.2 with (h | h) | h
    · exact hne h
    · omega
    · exact h ht
  · have := h3 i hi
    simp only [Bool.or_eq_true, decide_eq_true_eq, List.all_eq_true, List.mem_range, List.contains_iff_mem] at this
    exact this.resolve_left (by omega) j hj

theorem Came.lex2 (hd : ∀ i o, i < m → l[i]? = some o → ∀ j oj, j < m → l[j]? = some oj → j ≠ i → ∀ t, o.dst = some t → oj.dst ≠ some t) :
    ∀ k, k ≤ m → m ≤ l.length → Came l a0 m (fun j => decide (j < k)) vals (lexA (l.take k) 0 vals a0) := Came.lex hd
def listed0 (m n : Nat) : Array Bool := (List.replicate m true ++ List.replicate (n - m) false).toArray
theorem listed0_eq {m n : Nat} {listed : Array Bool} (hm : m ≤ n) (hs : listed.size = n) (h1 : ∀ j, j < m → listed.getD j false = true) (h2 : ∀ j, m ≤ j → j < n → listed.getD j false = false) : listed = listed0 m n := by
  refine Array.ext (by simp [listed0, hs]; omega) fun i hi hi' => ?_
  have e : listed.getD i false = listed[i] := by rw [Array.getD_eq_getD_getElem?, Array.getElem?_eq_getElem hi]; rfl
  rw [← e]
  simp only [listed0, List.getElem_toArray]
  rcases Nat.lt_or_ge i m with h | h
  · rw [h1 i h, List.getElem_append_left (by simpa using h)]; simp
  · rw [h2 i h (by omega), List.getElem_append_right (by simpa using h)]; simp
theorem wpAny_succ {md : Region.Mode} {ops : Array Oper} : ∀ (fuel : Nat) (listed : Array Bool) (a : Act) (w : World), wpAny P md ops Q fuel listed a w → wpAny P md ops Q (fuel + 1) listed a w := by
  intro fuel
  induction fuel with
  | zero => intro listed a w h; exact ⟨fun _ => h.2, fun i hi => by rw [h.1] at hi; simp at hi⟩
  | succ fuel ih => intro listed a w h; exact ⟨h.1, fun i hi => wpOp_mono (fun a w => ih _ a w) (h.2 i hi)⟩
theorem wpAny_more {md : Region.Mode} {ops : Array Oper} {f f' : Nat} {listed : Array Bool} {a : Act} {w : World} (hf : f ≤ f') (h : wpAny P md ops Q f listed a w) : wpAny P md ops Q f' listed a w := by
  induction hf with
  | refl => exact h
  | step _ ih => exact wpAny_succ _ _ _ _ ih
theorem wpAny_end {ops : Array Oper} {listed : Array Bool} {a : Act} {w : World} (hr : Region.ready .any ops listed = []) (h : Q .normal a w) : wpAny P .any ops Q 0 listed a w := ⟨hr, h⟩
theorem wpAny_one {ops : Array Oper} {fuel i : Nat} {listed : Array Bool} {a : Act} {w : World} (hr : Region.ready .any ops listed = [i]) (h : wpOp P ops Q i (wpAny P .any ops Q fuel (listed.setIfInBounds i true)) a w) : wpAny P .any ops Q (fuel + 1) listed a w :=
  ⟨fun h0 => (by rw [hr] at h0; cases h0), fun j hj => by rw [hr, List.mem_singleton] at hj; subst hj; exact h⟩
theorem wpAny_two {ops : Array Oper} {fuel i j : Nat} {listed : Array Bool} {a : Act} {w : World} (hr : Region.ready .any ops listed = [i, j]) (h : wpOp P ops Q i (wpAny P .any ops Q fuel (listed.setIfInBounds i true)) a w)
    (h' : wpOp P ops Q j (wpAny P .any ops Q fuel (listed.setIfInBounds j true)) a w) : wpAny P .any ops Q (fuel + 1) listed a w :=
  ⟨fun h0 => (by rw [hr] at h0; cases h0), fun k hk => by rw [hr] at hk; simp only [List.mem_cons, List.not_mem_nil, or_false] at hk; rcases hk with rfl | rfl; exact h; exact h'⟩
/-- A normal end alone. -/
def QN (N : Act → World → Prop) : Exit → Act → World → Prop
  | .normal, a, w => N a w
  | _, _, _ => False
theorem wpOp_list {ops : Array Oper} {i : Nat} {o : Oper} {a : Act} {w : World} {N K : Act → World → Prop} (ho : ops[i]? = some o) (h : wpList P ops (QN K) [o] a w) : wpOp P ops (QN N) i K a w := by
  unfold wpOp
  simp only [ho]
  simp only [wpList] at h
  split
  · rename_i hw
    rw [if_pos hw] at h
    rcases h with h | ⟨_, _, _, h⟩
    · refine .inl ?_
      unfold Oper.wp at *
      generalize (execOp a.eval o).run P w = r at *
      cases r with
      | ok nx w' =>
        cases nx <;> simp only [Oper.upon] at h ⊢ <;> first | exact h | skip
        all_goals first | exact h | exact Calls.mono h fun e w'' he => by cases e with
          | returned u => exact he
          | panicked c => exact he.elim
          | outgrown => obtain ⟨_, _, h⟩ := he; exact h.elim
      | halt x w' => cases x <;> simp only [Oper.upon] at h ⊢; exact h.elim
    · exact h.elim
  · rename_i hw
    rw [if_neg hw] at h
    exact h
/-- **The operations ahead of m may come in whatever order their edges let; each leaves a fact that lasts.** -/
theorem post_any2 (hok : OK2 l m) {R : Nat → World → World → Prop} {B : Nat → World → Prop} {C : World → Prop} {Ψ : List (Value → World → Prop)} {pre : List (List Nat)}
    (hpre : ∀ i, i < m → ∀ j ∈ pre.getD i [], j ∈ (pastAll l).getD i [])
    (hC : ∀ i w w', i < m → C w → R i w w' → C w') (hΨ : ∀ (i j : Nat) v w w', i < m → j ≠ i → C w → R i w w' → (Ψ.getD j (fun _ _ => True)) v w → (Ψ.getD j (fun _ _ => True)) v w')
    (hBs : ∀ i j w w', i < m → j < m → j ≠ i → j ∉ (pastAll l).getD i [] → C w → R i w w' → B j w → B j w')
    (hstep : ∀ vals, Steps_ P l.toArray R B C Ψ vals (l.take m) pre 0 a0)
    (hend : ∀ vals w, C w → (∀ j, j < m → (Ψ.getD j (fun _ _ => True)) (vals j) w) → wpAny P .any l.toArray Q (l.length - m) (listed0 m l.length) (lexA (l.take m) 0 vals a0) w) :
    ∀ (fuel : Nat) (listed : Array Bool) (vals : Nat → Value) (a : Act) (w : World), toCome m (fun j => listed.getD j false) + (l.length - m) ≤ fuel → listed.size = l.length →
      (∀ j, m ≤ j → j < l.length → listed.getD j false = false) → (∀ j, j < l.length → listed.getD j false = true → ∀ x ∈ (pastAll l).getD j [], listed.getD x false = true) →
      Came l a0 m (fun j => listed.getD j false) vals a → C w → (∀ j, j < m → listed.getD j false = false → B j w) → (∀ j, j < m → listed.getD j false = true → (Ψ.getD j (fun _ _ => True)) (vals j) w) → wpAny P .any l.toArray Q fuel listed a w := by
  have hm := hok.le
  intro fuel
  induction fuel with
  | zero =>
    intro listed vals a w hf hs ht hdc hcame hCw hBw hΨw
    have hall : ∀ j, j < m → listed.getD j false = true := fun j hj => by
      cases hL : listed.getD j false with
      | true => rfl
      | false => have := toCome_pos (L := fun j => listed.getD j false) hj hL; omega
    have ha : a = lexA (l.take m) 0 vals a0 := hcame.eq (Came.lex hok.dst m (Nat.le_refl _) hm) fun j hj => by simp [hall j hj, hj]
    subst ha
    rw [listed0_eq hm hs hall ht]
    exact wpAny_more (by omega) (hend vals w hCw fun j hj => hΨw j hj (hall j hj))
  | succ fuel ih =>
    intro listed vals a w hf hs ht hdc hcame hCw hBw hΨw
    by_cases hall : ∀ j, j < m → listed.getD j false = true
    · have ha : a = lexA (l.take m) 0 vals a0 := hcame.eq (Came.lex hok.dst m (Nat.le_refl _) hm) fun j hj => by simp [hall j hj, hj]
      subst ha
      rw [listed0_eq hm hs hall ht]
      exact wpAny_more (by omega) (hend vals w hCw fun j hj => hΨw j hj (hall j hj))
    · have hex : ∃ i, i < m ∧ listed.getD i false = false ∧ ∀ j, j < i → listed.getD j false = true := by
        have key : ∀ n, n ≤ m → (∀ j, j < n → listed.getD j false = true) ∨ ∃ i, i < m ∧ listed.getD i false = false ∧ ∀ j, j < i → listed.getD j false = true := by
          intro n
          induction n with
          | zero => intro _; exact .inl fun j hj => by omega
          | succ n ihn =>
            intro hn
            rcases ihn (by omega) with h | h
            · cases hL : listed.getD n false with
              | true =>
                refine .inl fun j hj => ?_
                rcases Nat.lt_or_ge j n with h' | h'
                · exact h j h'
                · obtain rfl : j = n := by omega
                  exact hL
              | false => exact .inr ⟨n, by omega, hL, h⟩
            · exact .inr h
        rcases key m (Nat.le_refl _) with h | h
        · exact absurd h hall
        · exact h
      obtain ⟨i0, hi0, hL0, hlow⟩ := hex
      have hin : i0 ∈ Region.ready .any l.toArray listed := by
        refine ready_mem.2 ⟨by rw [getD_eq hs (by omega)]; exact hL0, l[i0], List.getElem?_eq_getElem (by omega), fun e he hb => ?_⟩
        exact hlow _ (hok.lt i0 e.on (hok.on i0 _ (List.getElem?_eq_getElem (by omega)) e he hb).1 (by omega))
      refine ⟨fun h0 => by rw [h0] at hin; simp at hin, fun i hi => ?_⟩
      obtain ⟨hLi, o, ho, hedge⟩ := ready_mem.1 hi
      have hil := (List.getElem?_eq_some_iff.1 ho).1
      rw [getD_eq hs hil] at hLi
      have hpast : ∀ x ∈ (pastAll l).getD i [], listed.getD x false = true := fun x hx => by
        obtain ⟨e, he, hb, hh⟩ := hok.back i o ho x hx
        have h1 := hedge e he hb
        rcases hh with rfl | hh
        · exact h1
        · exact hdc e.on (Nat.lt_trans (hok.lt i e.on (hok.on i o ho e he hb).1 hil) hil) h1 x hh
      have him : i < m := by
        rcases Nat.lt_or_ge i m with h | h
        · exact h
        · have := hpast i0 (hok.tail i h hil i0 hi0)
          rw [hL0] at this; cases this
      have hst := Steps_.at_ (l.take m) pre 0 a0 (hstep vals) i o (by rw [List.getElem?_take, if_pos him]; exact ho) w hCw (by rw [Nat.zero_add]; exact hBw i him hLi) (fun j hj => hΨw j (by have := hok.lt i j (hpre i him j hj) hil; omega) (hpast j (hpre i him j hj)))
      rw [List.take_take, Nat.min_eq_left (by omega), Nat.zero_add] at hst
      have hlex := Came.lex (l := l) (a0 := a0) (vals := vals) hok.dst i (by omega) hm
      have hlook : ∀ x ∈ o.looksAt l.toArray, a.tmps[x]? = (lexA (l.take i) 0 vals a0).tmps[x]? := fun x hx => by
        refine hcame.same hlex fun j oj hj hoj hd => ?_
        rcases hok.look i o him ho j oj hoj x hd hx with h | h
        · rw [hpast j h]
          have := hok.lt i j h hil
          simp [this]
        · have hji := hok.lt j i h (by omega)
          have : listed.getD j false = false := by
            cases hL : listed.getD j false with
            | false => rfl
            | true => have := hdc j (by omega) hL i h; rw [hLi] at this; cases this
          rw [this]
          simp; omega
      refine wpOp_of_list (by simpa using ho) (fun cs b => hok.sel i o cs b ho) hst hlook (hcame.defers.trans hlex.defers.symm) (fun v w' hR hv => ?_) (fun v v' e => ?_)
      · have hset : ∀ j, j < l.length → (listed.setIfInBounds i true).getD j false = (decide (j = i) || listed.getD j false) := fun j hj => by
          by_cases hji : j = i
          · subst hji; simp [hs, hj]
          · rw [getD_set_ne false (Ne.symm hji)]; simp [hji]
        have hnew := hcame.step ho him hLi (fun j oj hj hoj hne t ht => hok.dst i o him ho j oj hj hoj hne t ht) v
        refine ih _ (fun j => if j = i then v else vals j) _ w' ?_ (by simpa using hs) (fun j hmj hj => ?_) (fun j hj hLj x hx => ?_) ?_ (hC i w w' him hCw hR) (fun j hj hLj => ?_) (fun j hj hLj => ?_)
        · have h1 := toCome_step (L := fun j => listed.getD j false) him hLi
          have h2 : toCome m (fun j => (listed.setIfInBounds i true).getD j false) = toCome m (fun j => decide (j = i) || listed.getD j false) := by
            unfold toCome
            congr 1
            refine List.filter_congr fun j hj => ?_
            show (!((listed.setIfInBounds i true).getD j false)) = !(decide (j = i) || listed.getD j false)
            rw [hset j (by have := List.mem_range.1 hj; omega)]
          omega
        · rw [hset j hj, ht j hmj hj]; simp; omega
        · rw [hset j hj] at hLj
          have hxl : x < l.length := Nat.lt_trans (hok.lt j x hx hj) hj
          rw [hset x hxl]
          simp only [Bool.or_eq_true, decide_eq_true_eq] at hLj ⊢
          rcases hLj with rfl | hLj
          · exact .inr (hpast x hx)
          · exact .inr (hdc j hj hLj x hx)
        · exact ⟨hnew.defers, fun t ht => hnew.old t fun j oj hj hoj hLj => ht j oj hj hoj (by rw [hset j (by omega)]; exact hLj), fun j oj hj hoj hLj t hd => hnew.new j oj hj hoj (by rw [hset j (by omega)] at hLj; exact hLj) t hd⟩
        · rw [hset j (by omega)] at hLj
          simp only [Bool.or_eq_false_iff, decide_eq_false_iff_not] at hLj
          refine hBs i j w w' him hj hLj.1 (fun hp => ?_) hCw hR (hBw j hj hLj.2)
          have := hpast j hp
          rw [hLj.2] at this; cases this
        · by_cases hji : j = i
          · subst hji; simpa using hv
          · rw [hset j (by omega)] at hLj
            simp only [hji, decide_false, Bool.false_or] at hLj
            simp only [if_neg hji]
            exact hΨ i j _ w w' him hji hCw hR (hΨw j hj hLj)
      · cases hd : o.dst with
        | none => exact .inr rfl
        | some d =>
          rw [hd] at e
          have h1 := congrArg (fun x => x.tmps[d]?) e
          simp only [put_get, if_true] at h1
          cases hA : (lexA (l.take i) 0 vals a0).tmps[d]? with
          | some u => rw [hA] at h1; simp at h1; exact .inl h1
          | none =>
            refine .inr ?_
            have e1 : a.tmps[d]? = none := by
              have x1 : (a.tmps[d]?).isSome = (a0.tmps[d]?).isSome := by
                by_cases he : ∃ j o, j < m ∧ l[j]? = some o ∧ o.dst = some d ∧ listed.getD j false = true
                · obtain ⟨j, o, hj, ho, hd', hL⟩ := he
                  rw [hcame.new j o hj ho hL d hd']; simp
                · rw [hcame.old d fun j o hj ho hL hd' => he ⟨j, o, hj, ho, hd', hL⟩]
              have x2 : ((lexA (l.take i) 0 vals a0).tmps[d]?).isSome = (a0.tmps[d]?).isSome := by
                by_cases he : ∃ j o, j < m ∧ l[j]? = some o ∧ o.dst = some d ∧ decide (j < i) = true
                · obtain ⟨j, o, hj, ho, hd', hL⟩ := he
                  rw [hlex.new j o hj ho hL d hd']; simp
                · rw [hlex.old d fun j o hj ho hL hd' => he ⟨j, o, hj, ho, hd', hL⟩]
              rw [hA] at x2
              rw [← x2] at x1
              simpa using x1
            have hge : a.tmps.size ≤ d := Array.getElem?_eq_none_iff.1 e1
            simp [Act.put, Array.setIfInBounds, Nat.not_lt.2 hge]


theorem any_region_post {w : World} (m : Nat) {R : Nat → World → World → Prop} {B : Nat → World → Prop} {C : World → Prop} (Ψ : List (Value → World → Prop)) (pre : List (List Nat))
    (hok0 : postOK2 l m = true) (hP : ((List.range m).all fun i => (pre.getD i []).all fun j => ((pastAll l).getD i []).contains j) = true)
    (hC : ∀ i w w', i < m → C w → R i w w' → C w') (hΨ : ∀ (i j : Nat) v w w', i < m → j ≠ i → C w → R i w w' → (Ψ.getD j (fun _ _ => True)) v w → (Ψ.getD j (fun _ _ => True)) v w')
    (hBs : ∀ i j w w', i < m → j < m → j ≠ i → j ∉ (pastAll l).getD i [] → C w → R i w w' → B j w → B j w') (h0 : C w.drew) (hB0 : ∀ j, j < m → B j w.drew)
    (hstep : ∀ vals, Steps_ P l.toArray R B C Ψ vals (l.take m) pre 0 a0)
    (hend : ∀ vals w, C w → (∀ j, j < m → (Ψ.getD j (fun _ _ => True)) (vals j) w) → wpAny P .any l.toArray Q (l.length - m) (listed0 m l.length) (lexA (l.take m) 0 vals a0) w) :
    wpAny P .any l.toArray Q l.toArray.size (Array.replicate l.toArray.size false) a0 { w with drawn := w.drawn + 1 } := by
  have hok := OK2.of hok0
  refine post_any2 hok ?_ hC hΨ hBs hstep hend _ _ (fun _ => undef) a0 _ ?_ (by simp) (fun j _ hj => by simp [hj]) (fun j hj hL => by simp [hj] at hL) ⟨rfl, fun _ _ => rfl, fun j o hj ho hL => ?_⟩ h0 (fun j hj _ => hB0 j hj) (fun j hj hL => ?_)
  · intro i hi j hj
    have := List.all_eq_true.1 hP i (List.mem_range.2 hi)
    exact List.contains_iff_mem.1 (List.all_eq_true.1 this j hj)
  · have : toCome m (fun j => (Array.replicate l.toArray.size false).getD j false) ≤ m := by
      unfold toCome
      have := List.length_filter_le (fun j => !(Array.replicate l.toArray.size false).getD j false) (List.range m)
      simpa using this
    have := hok.le
    simp only [List.size_toArray] at *
    omega
  · have := (List.getElem?_eq_some_iff.1 ho).1
    simp [this] at hL
  · have := hok.le
    have h2 : j < l.length := by omega
    simp [h2] at hL
theorem rows_round {k n : Nat} {row : String} {args : Array Value} {w : World} {R : Value → World → Prop} (h : Rows P row args w R) : RowsIn (Fence.wide.inRound k) n P row args w R :=
  fun c cs _ => let ⟨v, w', r, s⟩ := h c cs; ⟨v, w', r, stepsIn_wide.2 s⟩
theorem op_round {k n : Nat} {o : Oper} (hd : ∀ c, o.op ≠ .defer c) {a : Act} {w : World} {K : Act → World → Prop} {N : Act → World → Prop} (h : o.wp P a w K (QN N)) : o.wpIn (Fence.wide.inRound k) n P a w K Q := by
  unfold Oper.wpIn
  refine ⟨fun f _ => trivial, ?_⟩
  rw [Oper.semAt_eq _ _ _ hd]
  unfold Oper.wp at h
  generalize (execOp a.eval o).run P w = r at *
  cases r with
  | ok nx w' =>
    cases nx <;> simp only [Oper.upon] at h <;> simp only [Oper.uponIn] <;> first | exact h | skip
    case enter f args =>
      refine ⟨fun hh => (by cases hh), CallsIn.inRound k (callsIn_wide.2 (Calls.mono h fun e w'' he => ?_))⟩
      cases e with
      | returned u => exact he
      | panicked c => exact he.elim
      | outgrown => obtain ⟨_, _, h⟩ := he; exact h.elim
    case row row args => exact ⟨fun hh => (by cases hh), rows_round h⟩
  | halt x w' => cases x <;> simp only [Oper.upon] at h; exact h.elim
theorem any_round {k n : Nat} {ops : Array Oper} (hd : ∀ (i : Nat) (o : Oper), ops[i]? = some o → ∀ c, o.op ≠ .defer c) {N : Act → World → Prop} (hN : ∀ a w, N a w → Q .normal a w) :
    ∀ (fuel : Nat) (listed : Array Bool) (a : Act) (w : World), wpAny P .any ops (QN N) fuel listed a w → wpAnyIn (Fence.wide.inRound k) n P .any ops Q fuel listed a w := by
  intro fuel
  induction fuel with
  | zero => intro listed a w h; exact ⟨h.1, hN _ _ h.2⟩
  | succ fuel ih =>
    intro listed a w h
    refine ⟨fun h0 => hN _ _ (h.1 h0), fun i hi => ?_⟩
    have h2 := wpOp_mono (fun a w => ih (listed.setIfInBounds i true) a w) (h.2 i hi)
    unfold wpOp at h2
    unfold wpOpIn
    split
    · rename_i hn; simp only [hn] at h2; exact h2
    · rename_i o ho
      simp only [ho] at h2
      split
      · rename_i hw
        rw [if_pos hw] at h2
        rcases h2 with h2 | ⟨_, _, _, h2⟩
        · exact op_round (hd i o ho) h2
        · exact h2.elim
      · rename_i hw
        rw [if_neg hw] at h2
        exact ⟨fun f _ => trivial, h2⟩
def noDefer (l : List Oper) : Bool := l.all fun o => match o.op with | .defer _ => false | _ => true
theorem region_round {k n id : Nat} {a : Act} {w : World} (hm : P.follows .mixedOrders = true) (hd : noDefer l = true)
    (h : wpAny P .any l.toArray (QN fun a w => Q .normal a w) l.toArray.size (Array.replicate l.toArray.size false) a { w with drawn := w.drawn + 1 }) : (Code.region id l.toArray true).wpIn (Fence.wide.inRound k) n P Q a w := by
  refine wpIn_region_any hm (any_round (fun i o ho c e => ?_) (fun _ _ h => h) _ _ _ _ h)
  have := List.all_eq_true.1 hd o (List.mem_of_getElem? (by simpa using ho))
  simp [e] at this
end
end Go.Proofs.YtfhpnkmhppfeiaaDoor
