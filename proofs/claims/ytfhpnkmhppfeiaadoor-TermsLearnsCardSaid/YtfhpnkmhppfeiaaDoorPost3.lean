/- A region that draws its order, walked once: what holds after some of its operations, and their values, is kept by each. -/
import Derived.Test.YtfhpnkmhppfeiaaDoorPost
set_option linter.unusedVariables false
namespace Go.Proofs.YtfhpnkmhppfeiaaDoor
open Go
def StepsJ (P : Program) (ops : Array Oper) (J : (Nat → Bool) → (Nat → Value) → World → Prop) (vals : Nat → Value) : List Oper → List (List Nat) → Nat → Act → Prop
  | [], _, _, _ => True
  | o :: r, pre, i, A =>
    (∀ L w, J L vals w → L i = false → (∀ j ∈ pre.headD [], L j = true) → wpList P ops (StepQ A o.dst (fun _ _ => True) w (fun v w' => J (fun j => decide (j = i) || L j) (fun j => if j = i then v else vals j) w')) [o] A w) ∧
    StepsJ P ops J vals r pre.tail (i + 1) (A.put o.dst (vals i))
section
variable {P : Program} {l : List Oper} {m : Nat} {a0 : Act} {Q : Exit → Act → World → Prop}
theorem StepsJ.at_ {vals : Nat → Value} {ops : Array Oper} {J : (Nat → Bool) → (Nat → Value) → World → Prop} : ∀ (r : List Oper) (pre : List (List Nat)) (i : Nat) (A : Act), StepsJ P ops J vals r pre i A →
    ∀ k o, r[k]? = some o → ∀ L w, J L vals w → L (i + k) = false → (∀ j ∈ pre.getD k [], L j = true) → wpList P ops (StepQ (lexA (r.take k) i vals A) o.dst (fun _ _ => True) w (fun v w' => J (fun j => decide (j = i + k) || L j) (fun j => if j = i + k then v else vals j) w')) [o] (lexA (r.take k) i vals A) w
  | [], _, _, _, _, k, o, hk => by simp at hk
  | x :: r, pre, i, A, h, 0, o, hk => by
    simp only [List.getElem?_cons_zero, Option.some.injEq] at hk
    subst hk
    intro L w hJ hL hp
    exact h.1 L w hJ hL fun j hj => hp j (by cases pre with | nil => simp at hj | cons p q => simpa using hj)
  | x :: r, pre, i, A, h, k + 1, o, hk => by
    intro L w hJ hL hp
    have := StepsJ.at_ r pre.tail (i + 1) _ h.2 k o (by simpa using hk) L w hJ (by rw [show i + 1 + k = i + (k + 1) by omega]; exact hL) fun j hj => hp j (by cases pre with | nil => simp at hj | cons p q => simpa using hj)
    simp only [List.take_succ_cons, lexA]
    rw [show i + (k + 1) = i + 1 + k by omega]
    exact this

theorem inv_any (hok : OK l m) {J : (Nat → Bool) → (Nat → Value) → World → Prop} {pre : List (List Nat)}
    (hpre : ∀ i, i < m → ∀ j ∈ pre.getD i [], j ∈ (pastAll l).getD i [])
    (hstep : ∀ vals, StepsJ P l.toArray J vals (l.take m) pre 0 a0)
    (hend : ∀ vals w, J (fun j => decide (j < m)) vals w → wpList P l.toArray Q (l.drop m) (lexA (l.take m) 0 vals a0) w) :
    ∀ (fuel : Nat) (listed : Array Bool) (vals : Nat → Value) (a : Act) (w : World), toCome m (fun j => listed.getD j false) + (l.length - m) ≤ fuel → listed.size = l.length →
      (∀ j, m ≤ j → j < l.length → listed.getD j false = false) → (∀ j, j < l.length → listed.getD j false = true → ∀ x ∈ (pastAll l).getD j [], listed.getD x false = true) →
      Came l a0 m (fun j => listed.getD j false) vals a → J (fun j => listed.getD j false) vals w → wpAny P .any l.toArray Q fuel listed a w := by
  have hm := hok.le
  have hout : ∀ (listed : Array Bool) j, listed.size = l.length → l.length ≤ j → listed.getD j false = false := fun listed j hs hj => by
    rw [Array.getD_eq_getD_getElem?, Array.getElem?_eq_none (by omega)]; rfl
  have hfull : ∀ (listed : Array Bool), listed.size = l.length → (∀ j, m ≤ j → j < l.length → listed.getD j false = false) → (∀ j, j < m → listed.getD j false = true) → (fun j => listed.getD j false) = fun j => decide (j < m) := fun listed hs ht hall => by
    funext j
    rcases Nat.lt_or_ge j m with h | h
    · simp [hall j h, h]
    · rcases Nat.lt_or_ge j l.length with h' | h'
      · rw [ht j h h']; simp; omega
      · rw [hout listed j hs h']; simp; omega
  intro fuel
  induction fuel with
  | zero =>
    intro listed vals a w hf hs ht hdc hcame hJ
    have hall : ∀ j, j < m → listed.getD j false = true := fun j hj => by
      cases hL : listed.getD j false with
      | true => rfl
      | false => have := toCome_pos (L := fun j => listed.getD j false) hj hL; omega
    have ha : a = lexA (l.take m) 0 vals a0 := hcame.eq (Came.lex hok.dst m (Nat.le_refl _) hm) fun j hj => by simp [hall j hj, hj]
    subst ha
    refine tail_any hok 0 m listed _ w (Nat.le_refl _) hm (by omega) hs (fun j hj => ?_) (hend vals w (hfull listed hs ht hall ▸ hJ))
    rcases Nat.lt_or_ge j m with h | h
    · simp [hall j h, h]
    · rw [ht j h hj]; simp [h]
  | succ fuel ih =>
    intro listed vals a w hf hs ht hdc hcame hJ
    by_cases hall : ∀ j, j < m → listed.getD j false = true
    · have ha : a = lexA (l.take m) 0 vals a0 := hcame.eq (Came.lex hok.dst m (Nat.le_refl _) hm) fun j hj => by simp [hall j hj, hj]
      subst ha
      refine tail_any hok (fuel + 1) m listed _ w (Nat.le_refl _) hm (by omega) hs (fun j hj => ?_) (hend vals w (hfull listed hs ht hall ▸ hJ))
      rcases Nat.lt_or_ge j m with h | h
      · simp [hall j h, h]
      · rw [ht j h hj]; simp [h]
    · have hex : ∃ i, i < m ∧ listed.getD i false = false ∧ ∀ j, j < i → listed.getD j false = true := by
        have key : ∀ n, n ≤ m → (∀ j, j < n → listed.getD j false = true) ∨ ∃ i, i < m ∧ listed.getD i false = false ∧ ∀ j, j < i → listed.getD j false = true := by
          intro n
          induction n with
          | zero => intro _; exact .inl fun j hj => by omega
          | succ n ihn =>
            intro hn
            rcases ihn (by omega) with h | h
            · cases hL : listed.getD n false with
              | true =>
                refine .inl fun j hj => ?_
                rcases Nat.lt_or_ge j n with h' | h'
                · exact h j h'
                · obtain rfl : j = n := by omega
                  exact hL
              | false => exact .inr ⟨n, by omega, hL, h⟩
            · exact .inr h
        rcases key m (Nat.le_refl _) with h | h
        · exact absurd h hall
        · exact h
      obtain ⟨i0, hi0, hL0, hlow⟩ := hex
      have hin : i0 ∈ Region.ready .any l.toArray listed := by
        refine ready_mem.2 ⟨by rw [getD_eq hs (by omega)]; exact hL0, l[i0], List.getElem?_eq_getElem (by omega), fun e he hb => ?_⟩
        exact hlow _ (hok.lt i0 e.on (hok.on i0 _ (List.getElem?_eq_getElem (by omega)) e he hb).1 (by omega))
      refine ⟨fun h0 => by rw [h0] at hin; simp at hin, fun i hi => ?_⟩
      obtain ⟨hLi, o, ho, hedge⟩ := ready_mem.1 hi
      have hil := (List.getElem?_eq_some_iff.1 ho).1
      rw [getD_eq hs hil] at hLi
      have hpast : ∀ x ∈ (pastAll l).getD i [], listed.getD x false = true := fun x hx => by
        obtain ⟨e, he, hb, hh⟩ := hok.back i o ho x hx
        have h1 := hedge e he hb
        rcases hh with rfl | hh
        · exact h1
        · exact hdc e.on (Nat.lt_trans (hok.lt i e.on (hok.on i o ho e he hb).1 hil) hil) h1 x hh
      have him : i < m := by
        rcases Nat.lt_or_ge i m with h | h
        · exact h
        · have := hpast i0 (hok.tail i h hil i0 (by omega))
          rw [hL0] at this; cases this
      have hst := StepsJ.at_ (l.take m) pre 0 a0 (hstep vals) i o (by rw [List.getElem?_take, if_pos him]; exact ho) (fun j => listed.getD j false) w hJ (by rw [Nat.zero_add]; exact hLi) (fun j hj => hpast j (hpre i him j hj))
      rw [List.take_take, Nat.min_eq_left (by omega), Nat.zero_add] at hst
      have hlex := Came.lex (l := l) (a0 := a0) (vals := vals) hok.dst i (by omega) hm
      have hlook : ∀ x ∈ o.looksAt l.toArray, a.tmps[x]? = (lexA (l.take i) 0 vals a0).tmps[x]? := fun x hx => by
        refine hcame.same hlex fun j oj hj hoj hd => ?_
        rcases hok.look i o him ho j oj hoj x hd hx with h | h
        · rw [hpast j h]
          have := hok.lt i j h hil
          simp [this]
        · have hji := hok.lt j i h (by omega)
          have : listed.getD j false = false := by
            cases hL : listed.getD j false with
            | false => rfl
            | true => have := hdc j (by omega) hL i h; rw [hLi] at this; cases this
          rw [this]
          simp; omega
      refine wpOp_of_list (by simpa using ho) (fun cs b => hok.sel i o cs b ho) hst hlook (hcame.defers.trans hlex.defers.symm) (fun v w' hR hv => ?_) (fun v v' e => ?_)
      · have hset : ∀ j, j < l.length → (listed.setIfInBounds i true).getD j false = (decide (j = i) || listed.getD j false) := fun j hj => by
          by_cases hji : j = i
          · subst hji; simp [hs, hj]
          · rw [getD_set_ne false (Ne.symm hji)]; simp [hji]
        have hsetf : (fun j => (listed.setIfInBounds i true).getD j false) = fun j => decide (j = i) || listed.getD j false := by
          funext j
          rcases Nat.lt_or_ge j l.length with h | h
          · exact hset j h
          · rw [hout _ j (by simpa using hs) h, hout _ j hs h]; simp; omega
        have hnew := hcame.step ho him hLi (fun j oj hj hoj hne t ht => hok.dst i o him ho j oj hj hoj hne t ht) v
        refine ih _ (fun j => if j = i then v else vals j) _ w' ?_ (by simpa using hs) (fun j hmj hj => ?_) (fun j hj hLj x hx => ?_) ?_ (hsetf ▸ hv)
        · have h1 := toCome_step (L := fun j => listed.getD j false) him hLi
          rw [hsetf]
          omega
        · rw [hset j hj, ht j hmj hj]; simp; omega
        · rw [hset j hj] at hLj
          have hxl : x < l.length := Nat.lt_trans (hok.lt j x hx hj) hj
          rw [hset x hxl]
          simp only [Bool.or_eq_true, decide_eq_true_eq] at hLj ⊢
          rcases hLj with rfl | hLj
          · exact .inr (hpast x hx)
          · exact .inr (hdc j hj hLj x hx)
        · rw [hsetf]; exact hnew
      · cases hd : o.dst with
        | none => exact .inr rfl
        | some d =>
          rw [hd] at e
          have h1 := congrArg (fun x => x.tmps[d]?) e
          simp only [put_get, if_true] at h1
          cases hA : (lexA (l.take i) 0 vals a0).tmps[d]? with
          | some u => rw [hA] at h1; simp at h1; exact .inl h1
          | none =>
            refine .inr ?_
            have e1 : a.tmps[d]? = none := by
              have x1 : (a.tmps[d]?).isSome = (a0.tmps[d]?).isSome := by
                by_cases he : ∃ j o, j < m ∧ l[j]? = some o ∧ o.dst = some d ∧ listed.getD j false = true
                · obtain ⟨j, o, hj, ho, hd', hL⟩ := he
                  rw [hcame.new j o hj ho hL d hd']; simp
                · rw [hcame.old d fun j o hj ho hL hd' => he ⟨j, o, hj, ho, hd', hL⟩]
              have x2 : ((lexA (l.take i) 0 vals a0).tmps[d]?).isSome = (a0.tmps[d]?).isSome := by
                by_cases he : ∃ j o, j < m ∧ l[j]? = some o ∧ o.dst = some d ∧ decide (j < i) = true
                · obtain ⟨j, o, hj, ho, hd', hL⟩ := he
                  rw [hlex.new j o hj ho hL d hd']; simp
                · rw [hlex.old d fun j o hj ho hL hd' => he ⟨j, o, hj, ho, hd', hL⟩]
              rw [hA] at x2
              rw [← x2] at x1
              simpa using x1
            have hge : a.tmps.size ≤ d := Array.getElem?_eq_none_iff.1 e1
            simp [Act.put, Array.setIfInBounds, Nat.not_lt.2 hge]

theorem wp_region_inv {id : Nat} {w : World} (m : Nat) (J : (Nat → Bool) → (Nat → Value) → World → Prop) (pre : List (List Nat)) (hmix : P.follows .mixedOrders = true)
    (hok0 : postOK l m = true) (hP : ((List.range m).all fun i => (pre.getD i []).all fun j => ((pastAll l).getD i []).contains j) = true)
    (h0 : ∀ vals, J (fun _ => false) vals w.drew)
    (hstep : ∀ vals, StepsJ P l.toArray J vals (l.take m) pre 0 a0)
    (hend : ∀ vals w, J (fun j => decide (j < m)) vals w → wpList P l.toArray Q (l.drop m) (lexA (l.take m) 0 vals a0) w) :
    (Code.region id l.toArray true).wp P Q a0 w := by
  have hok := OK.of hok0
  have hno : (fun j => (Array.replicate l.toArray.size false).getD j false) = fun _ => false := by
    funext j
    rw [Array.getD_eq_getD_getElem?, Array.getElem?_replicate]
    split <;> rfl
  refine wp_region_any hmix (inv_any hok ?_ hstep hend _ _ (fun _ => undef) a0 _ ?_ (by simp) (fun j _ hj => by simp [hj]) (fun j hj hL => by simp [hj] at hL) ⟨rfl, fun _ _ => rfl, fun j o hj ho hL => ?_⟩ (by rw [hno]; exact h0 _))
  · intro i hi j hj
    have := List.all_eq_true.1 hP i (List.mem_range.2 hi)
    exact List.contains_iff_mem.1 (List.all_eq_true.1 this j hj)
  · have : toCome m (fun j => (Array.replicate l.toArray.size false).getD j false) ≤ m := by
      unfold toCome
      have := List.length_filter_le (fun j => !(Array.replicate l.toArray.size false).getD j false) (List.range m)
      simpa using this
    have := hok.le
    simp only [List.size_toArray] at *
    omega
  · have := (List.getElem?_eq_some_iff.1 ho).1
    simp [this] at hL
end
end Go.Proofs.YtfhpnkmhppfeiaaDoor
