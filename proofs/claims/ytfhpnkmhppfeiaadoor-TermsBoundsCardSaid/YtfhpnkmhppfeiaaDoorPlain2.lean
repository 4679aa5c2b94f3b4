/- Terms of form: their induction, their texts, which are of one term alone; an ordered term's order. -/
import Derived.Test.YtfhpnkmhppfeiaaDoorPlain
set_option linter.unusedVariables false
namespace Go.Proofs.YtfhpnkmhppfeiaaDoor

theorem form_ind {P : Tm → Prop} (leaf : ∀ k n, (k = 1 ∨ k = 2) → 0 ≤ n → P (.mk k n []))
    (one : ∀ k a, (k = 3 ∨ k = 9) → form a = true → P a → P (.mk k 0 [a]))
    (two : ∀ k a b, 4 ≤ k → k ≤ 8 → form a = true → form b = true → P a → P b → P (.mk k 0 [a, b])) : ∀ t, form t = true → P t := by
  intro t
  apply Tm.rec (motive_1 := fun t => form t = true → P t) (motive_2 := fun l => formL l = true → ∀ a ∈ l, P a)
  · intro k n args ih h
    obtain ⟨h1, h2⟩ := form_head h
    obtain ⟨hk, hl, hn, hz⟩ := headOK_iff.1 h1
    have hm := fun a => form_mem h (a := a)
    unfold arity at hl hz
    by_cases c1 : k = 3 ∨ k = 9
    · rw [if_pos c1] at hl hz
      obtain ⟨a, rfl⟩ := List.length_eq_one_iff.1 hl
      have : n = 0 := by omega
      subst this
      exact one k a c1 (hm a (by simp)) (ih h2 a (by simp))
    · rw [if_neg c1] at hl hz
      by_cases c2 : 4 ≤ k ∧ k ≤ 8
      · rw [if_pos c2] at hl hz
        obtain ⟨a, b, rfl⟩ : ∃ a b, args = [a, b] := by
          match args, hl with
          | [a, b], _ => exact ⟨a, b, rfl⟩
        have : n = 0 := by omega
        subst this
        exact two k a b c2.1 c2.2 (hm a (by simp)) (hm b (by simp)) (ih h2 a (by simp)) (ih h2 b (by simp))
      · rw [if_neg c2] at hl hz
        obtain rfl := List.length_eq_zero_iff.1 hl
        exact leaf k n (by omega) hn
  · intro _ a ha; simp at ha
  · intro a r iha ihr h b hb
    simp only [formL, Bool.and_eq_true] at h
    rcases List.mem_cons.1 hb with rfl | hb
    · exact iha h.1
    · exact ihr h.2 b hb
theorem ar0 {k : Int} (h : k = 1 ∨ k = 2) : arity k = 0 := by unfold arity; rw [if_neg (by omega), if_neg (by omega)]
theorem ar1 {k : Int} (h : k = 3 ∨ k = 9) : arity k = 1 := by unfold arity; rw [if_pos h]
theorem ar2 {k : Int} (h : 4 ≤ k) (h' : k ≤ 8) : arity k = 2 := by unfold arity; rw [if_neg (by omega), if_pos ⟨h, h'⟩]
theorem txt0 {k n : Int} (h : k = 1 ∨ k = 2) : txt (.mk k n []) = kname k ++ Lib.itoa n := by rw [txt, if_pos (ar0 h)]
theorem txt1 {k : Int} {a : Tm} (h : k = 3 ∨ k = 9) : txt (.mk k 0 [a]) = kname k ++ (40 :: (txt a ++ [41])) := by
  rw [txt, if_neg (by rw [ar1 h]; omega)]; simp [txtL, Lib.join_one]
theorem txt2 {k : Int} {a b : Tm} (h : 4 ≤ k) (h' : k ≤ 8) : txt (.mk k 0 [a, b]) = kname k ++ (40 :: (txt a ++ (44 :: (txt b ++ [41])))) := by
  rw [txt, if_neg (by rw [ar2 h h']; omega)]; simp [txtL, Lib.join_cons, Lib.joinTail]

/-! ### cutting -/
def low (c : UInt8) : Bool := decide (97 ≤ c.toNat ∧ c.toNat ≤ 122)
def dig (c : UInt8) : Bool := decide (48 ≤ c.toNat ∧ c.toNat ≤ 57)
/-- Does not begin so. -/
def noHd (p : UInt8 → Bool) (x : Bs) : Prop := ∀ c, x.head? = some c → p c = false
theorem cut_eq {p : UInt8 → Bool} : ∀ {u u' x x' : Bs}, (∀ c ∈ u, p c = true) → (∀ c ∈ u', p c = true) → noHd p x → noHd p x' → u ++ x = u' ++ x' → u = u' ∧ x = x'
  | [], [], _, _, _, _, _, _, h => ⟨rfl, h⟩
  | [], c :: r, x, x', _, h2, h3, _, h => by
    simp only [List.nil_append, List.cons_append] at h
    have := h3 c (by rw [h]; rfl)
    rw [h2 c (by simp)] at this; cases this
  | c :: r, [], x, x', h1, _, _, h4, h => by
    simp only [List.nil_append, List.cons_append] at h
    have := h4 c (by rw [← h]; rfl)
    rw [h1 c (by simp)] at this; cases this
  | c :: r, d :: s, x, x', h1, h2, h3, h4, h => by
    simp only [List.cons_append, List.cons.injEq] at h
    obtain ⟨rfl, h⟩ := h
    obtain ⟨e1, e2⟩ := cut_eq (fun c hc => h1 c (by simp [hc])) (fun c hc => h2 c (by simp [hc])) h3 h4 h
    exact ⟨by rw [e1], e2⟩
theorem kname_low (k : Int) : ∀ c ∈ kname k, low c = true := by
  unfold kname
  repeat' split
  all_goals decide
theorem kname_inj {k k' : Int} (h : isKind k = true) (h' : isKind k' = true) (e : kname k = kname k') : k = k' := by
  simp only [isKind, decide_eq_true_eq] at h h'
  have : k = 1 ∨ k = 2 ∨ k = 3 ∨ k = 4 ∨ k = 5 ∨ k = 6 ∨ k = 7 ∨ k = 8 ∨ k = 9 := by omega
  have : k' = 1 ∨ k' = 2 ∨ k' = 3 ∨ k' = 4 ∨ k' = 5 ∨ k' = 6 ∨ k' = 7 ∨ k' = 8 ∨ k' = 9 := by omega
  rcases ‹k = 1 ∨ _› with rfl | rfl | rfl | rfl | rfl | rfl | rfl | rfl | rfl <;> rcases ‹k' = 1 ∨ _› with rfl | rfl | rfl | rfl | rfl | rfl | rfl | rfl | rfl <;> first | rfl | (exfalso; revert e; decide)
theorem dec_dig (u : Nat) : ∀ c ∈ Lib.decDigits u, dig c = true := by
  induction u using Nat.strongRecOn with
  | _ u ih =>
    have key : ∀ d : Nat, d < 10 → dig (UInt8.ofNat (48 + d)) = true := by decide
    by_cases h : u < 10
    · rw [Lib.decDigits, dif_pos h]; intro c hc; rw [List.mem_singleton] at hc; subst hc; exact key u h
    · rw [Lib.decDigits, dif_neg h]; intro c hc
      rcases List.mem_append.1 hc with hc | hc
      · exact ih _ (by omega) c hc
      · rw [List.mem_singleton] at hc; subst hc; exact key _ (by omega)
theorem dec_ne (u : Nat) : Lib.decDigits u ≠ [] := by
  rw [Lib.decDigits]; split <;> simp
theorem dec_inj : ∀ (u v : Nat), Lib.decDigits u = Lib.decDigits v → u = v := by
  have key : ∀ d : Nat, d < 10 → ∀ e : Nat, e < 10 → UInt8.ofNat (48 + d) = UInt8.ofNat (48 + e) → d = e := by decide
  intro u
  induction u using Nat.strongRecOn with
  | _ u ih =>
    intro v e
    by_cases h : u < 10
    · by_cases h' : v < 10
      · rw [Lib.decDigits, dif_pos h, Lib.decDigits, dif_pos h'] at e
        exact key u h v h' (by simpa using e)
      · rw [Lib.decDigits, dif_pos h, Lib.decDigits, dif_neg h'] at e
        have hl := congrArg List.length e
        have := List.length_pos_iff.2 (dec_ne (v / 10))
        simp at hl
        exact absurd hl (dec_ne _)
    · by_cases h' : v < 10
      · rw [Lib.decDigits, dif_neg h] at e
        conv at e => rhs; rw [Lib.decDigits, dif_pos h']
        have hl := congrArg List.length e
        simp at hl
        exact absurd hl (dec_ne _)
      · rw [Lib.decDigits, dif_neg h] at e
        conv at e => rhs; rw [Lib.decDigits, dif_neg h']
        obtain ⟨e1, e2⟩ := List.append_inj' e rfl
        have a := ih _ (by omega) _ e1
        have b := key (u % 10) (by omega) (v % 10) (by omega) (by simpa using e2)
        omega
theorem itoa_nat {n : Int} (h : 0 ≤ n) : Lib.itoa n = Lib.decDigits n.toNat := by unfold Lib.itoa; rw [if_neg (by omega)]

theorem hd_dec (u : Nat) (x : Bs) : noHd low (Lib.decDigits u ++ x) := by
  intro c hc
  have hd := dec_dig u
  obtain ⟨d, r, e⟩ := List.exists_cons_of_ne_nil (dec_ne u)
  rw [e] at hc hd
  simp only [List.cons_append, List.head?_cons, Option.some.injEq] at hc
  subst hc
  have := hd d (by simp)
  simp only [dig, decide_eq_true_eq] at this
  simp only [low, decide_eq_false_iff_not]; omega
theorem noHd_cons {p : UInt8 → Bool} {c : UInt8} {x : Bs} (h : p c = false) : noHd p (c :: x) := by
  intro d hd; simp only [List.head?_cons, Option.some.injEq] at hd; exact hd ▸ h
theorem noHd_nil {p : UInt8 → Bool} : noHd p [] := by intro d hd; simp at hd

/-- A term of form and what stands behind its text. -/
theorem txt_cut : ∀ a, form a = true → ∀ b, form b = true → ∀ x y, noHd dig x → noHd dig y → txt a ++ x = txt b ++ y → a = b ∧ x = y := by
  have tail : ∀ t, form t = true → ∀ x, ∃ r, txt t ++ x = kname t.k ++ r ∧ noHd low r ∧ isKind t.k = true := by
    intro t ht x
    refine form_ind (P := fun t => ∃ r, txt t ++ x = kname t.k ++ r ∧ noHd low r ∧ isKind t.k = true) ?_ ?_ ?_ t ht
    · intro k n hk hn
      exact ⟨Lib.decDigits n.toNat ++ x, by rw [txt0 hk, itoa_nat hn, List.append_assoc]; rfl, hd_dec _ _, by show isKind k = true; simp only [isKind, decide_eq_true_eq]; omega⟩
    · intro k a hk _ _
      exact ⟨40 :: (txt a ++ [41]) ++ x, by rw [txt1 hk, List.append_assoc]; rfl, noHd_cons (by decide), by show isKind k = true; simp only [isKind, decide_eq_true_eq]; omega⟩
    · intro k a b h h' _ _ _ _
      exact ⟨40 :: (txt a ++ (44 :: (txt b ++ [41]))) ++ x, by rw [txt2 h h', List.append_assoc]; rfl, noHd_cons (by decide), by show isKind k = true; simp only [isKind, decide_eq_true_eq]; omega⟩
  intro a ha
  refine form_ind (P := fun a => ∀ b, form b = true → ∀ x y, noHd dig x → noHd dig y → txt a ++ x = txt b ++ y → a = b ∧ x = y) ?_ ?_ ?_ a ha
  · intro k n hk hn b hb x y hx hy e
    obtain ⟨r1, e1, p1, q1⟩ := tail _ (by simp [form, formL, headOK, isKind, ar0 hk, hn]; omega : form (.mk k n []) = true) x
    obtain ⟨r2, e2, p2, q2⟩ := tail b hb y
    rw [e1, e2] at e
    obtain ⟨ek, -⟩ := cut_eq (kname_low _) (kname_low _) p1 p2 e
    have ek := kname_inj q1 q2 ek
    rw [e1.symm, e2.symm] at e
    clear e1 e2 p1 p2 r1 r2
    revert ek e
    refine form_ind (P := fun b => txt (.mk k n []) ++ x = txt b ++ y → Tm.k (.mk k n []) = b.k → Tm.mk k n [] = b ∧ x = y) ?_ ?_ ?_ b hb
    · intro k' n' hk' hn' e ek
      obtain rfl : k = k' := ek
      rw [txt0 hk, txt0 hk, List.append_assoc, List.append_assoc] at e
      have e := List.append_cancel_left e
      rw [itoa_nat hn, itoa_nat hn'] at e
      obtain ⟨e3, e4⟩ := cut_eq (dec_dig _) (dec_dig _) hx hy e
      have := dec_inj _ _ e3
      have : n = n' := by omega
      exact ⟨by rw [this], e4⟩
    · intro k' a hk' _ _ _ ek
      simp only [Tm.k] at ek; omega
    · intro k' a c h h' _ _ _ _ _ ek
      simp only [Tm.k] at ek; omega
  · intro k a1 hk ha1 ih b hb x y hx hy e
    obtain ⟨r1, e1, p1, q1⟩ := tail _ (by simp [form, formL, headOK, isKind, ar1 hk, ha1]; omega : form (.mk k 0 [a1]) = true) x
    obtain ⟨r2, e2, p2, q2⟩ := tail b hb y
    rw [e1, e2] at e
    obtain ⟨ek, -⟩ := cut_eq (kname_low _) (kname_low _) p1 p2 e
    have ek := kname_inj q1 q2 ek
    rw [e1.symm, e2.symm] at e
    clear e1 e2 p1 p2 r1 r2
    revert ek e
    refine form_ind (P := fun b => txt (.mk k 0 [a1]) ++ x = txt b ++ y → Tm.k (.mk k 0 [a1]) = b.k → Tm.mk k 0 [a1] = b ∧ x = y) ?_ ?_ ?_ b hb
    · intro k' n' hk' hn' e ek
      simp only [Tm.k] at ek; omega
    · intro k' b1 hk' hb1 _ e ek
      obtain rfl : k = k' := ek
      rw [txt1 hk, txt1 hk, List.append_assoc, List.append_assoc] at e
      have e := List.append_cancel_left e
      simp only [List.cons_append, List.cons.injEq, true_and, List.append_assoc, List.nil_append] at e
      obtain ⟨e3, e4⟩ := ih b1 hb1 _ _ (noHd_cons (by decide)) (noHd_cons (by decide)) e
      simp only [List.cons.injEq, true_and] at e4
      exact ⟨by rw [e3], e4⟩
    · intro k' a c h h' _ _ _ _ _ ek
      simp only [Tm.k] at ek; omega
  · intro k a1 a2 hk hk2 ha1 ha2 ih1 ih2 b hb x y hx hy e
    obtain ⟨r1, e1, p1, q1⟩ := tail _ (by simp [form, formL, headOK, isKind, ar2 hk hk2, ha1, ha2]; omega : form (.mk k 0 [a1, a2]) = true) x
    obtain ⟨r2, e2, p2, q2⟩ := tail b hb y
    rw [e1, e2] at e
    obtain ⟨ek, -⟩ := cut_eq (kname_low _) (kname_low _) p1 p2 e
    have ek := kname_inj q1 q2 ek
    rw [e1.symm, e2.symm] at e
    clear e1 e2 p1 p2 r1 r2
    revert ek e
    refine form_ind (P := fun b => txt (.mk k 0 [a1, a2]) ++ x = txt b ++ y → Tm.k (.mk k 0 [a1, a2]) = b.k → Tm.mk k 0 [a1, a2] = b ∧ x = y) ?_ ?_ ?_ b hb
    · intro k' n' hk' hn' e ek
      simp only [Tm.k] at ek; omega
    · intro k' b1 hk' hb1 _ e ek
      simp only [Tm.k] at ek; omega
    · intro k' b1 b2 h h' hb1 hb2 _ _ e ek
      obtain rfl : k = k' := ek
      rw [txt2 hk hk2, txt2 hk hk2, List.append_assoc, List.append_assoc] at e
      have e := List.append_cancel_left e
      simp only [List.cons_append, List.cons.injEq, true_and, List.append_assoc, List.nil_append] at e
      obtain ⟨e3, e4⟩ := ih1 b1 hb1 _ _ (noHd_cons (by decide)) (noHd_cons (by decide)) e
      simp only [List.cons.injEq, true_and] at e4
      obtain ⟨e5, e6⟩ := ih2 b2 hb2 _ _ (noHd_cons (by decide)) (noHd_cons (by decide)) e4
      simp only [List.cons.injEq, true_and] at e6
      exact ⟨by rw [e3, e5], e6⟩
theorem txt_inj {a b : Tm} (ha : form a = true) (hb : form b = true) (e : txt a = txt b) : a = b :=
  (txt_cut a ha b hb [] [] noHd_nil noHd_nil (by rw [e])).1
theorem bLess_irr : ∀ a, bLess a a = false
  | [] => rfl
  | a :: r => by simp [bLess, bLess_irr r]
theorem bLess_asymm : ∀ {a b : Bs}, bLess a b = true → bLess b a = false
  | [], [], h => by simp [bLess] at h
  | [], b :: y, _ => rfl
  | a :: x, [], h => by simp [bLess] at h
  | a :: x, b :: y, h => by
    simp only [bLess, Bool.or_eq_true, decide_eq_true_eq, Bool.and_eq_true, beq_iff_eq] at h
    simp only [bLess, Bool.or_eq_false_iff, decide_eq_false_iff_not, Bool.and_eq_false_iff, beq_eq_false_iff_ne]
    rcases h with h | ⟨rfl, h⟩
    · exact ⟨fun hh => absurd (UInt8.lt_trans h hh) (UInt8.lt_irrefl _), .inl fun e => by subst e; exact UInt8.lt_irrefl _ h⟩
    · exact ⟨UInt8.lt_irrefl _, .inr (bLess_asymm h)⟩
theorem bLess_tot : ∀ {a b : Bs}, a ≠ b → bLess a b = false → bLess b a = true
  | [], [], h, _ => absurd rfl h
  | [], b :: y, _, h => by simp [bLess] at h
  | a :: x, [], _, _ => rfl
  | a :: x, b :: y, hne, h => by
    simp only [bLess, Bool.or_eq_false_iff, decide_eq_false_iff_not, Bool.and_eq_false_iff, beq_eq_false_iff_ne] at h
    simp only [bLess, Bool.or_eq_true, decide_eq_true_eq, Bool.and_eq_true, beq_iff_eq]
    by_cases e : a = b
    · subst e
      exact .inr ⟨rfl, bLess_tot (fun e => hne (by rw [e])) (by rcases h.2 with h | h; exact absurd rfl h; exact h)⟩
    · exact .inl (UInt8.lt_of_le_of_ne (UInt8.not_lt.1 h.1) fun e' => e e'.symm)
/-- Greater is: the other one is less. -/
theorem bGt_iff {a b : Bs} : bGt a b = true ↔ bLess b a = true := by
  unfold bGt
  simp only [Bool.and_eq_true, Bool.not_eq_true', beq_eq_false_iff_ne]
  exact ⟨fun ⟨h, hne⟩ => bLess_tot hne h, fun h => ⟨bLess_asymm h, fun e => by subst e; rw [bLess_irr] at h; cases h⟩⟩
theorem bGt_asymm {a b : Bs} (h : bGt a b = true) : bGt b a = false := by
  cases e : bGt b a with
  | false => rfl
  | true => rw [bGt_iff] at h e; rw [bLess_asymm h] at e; cases e
theorem turn_turn (k : Int) (l : List Tm) : turn k (turn k l) = turn k l := by
  match l with
  | [] => rfl
  | [a] => rfl
  | [a, b] =>
    unfold turn
    by_cases h : (k = 8 && bGt (txt a) (txt b)) = true
    · simp only [h, if_true]
      simp only [Bool.and_eq_true, decide_eq_true_eq] at h
      rw [if_neg]
      simp [bGt_asymm h.2]
    · simp only [h]; simp [h]
  | a :: b :: c :: r => rfl
theorem turn_len (k : Int) (l : List Tm) : (turn k l).length = l.length := by
  rcases turn_cases k l with h | ⟨a, b, h1, h2⟩
  · rw [h]
  · rw [h2, h1]; rfl
theorem turn_mem {k : Int} {l : List Tm} {a : Tm} (h : a ∈ turn k l) : a ∈ l := by
  rcases turn_cases k l with h' | ⟨x, y, h1, h2⟩
  · rwa [h'] at h
  · rw [h2] at h; rw [h1]; simp at h ⊢; exact h.symm
/-- The order of a term's order is it. -/
theorem ord_ord (t : Tm) : ord (ord t) = ord t := by
  apply Tm.rec (motive_1 := fun t => ord (ord t) = ord t) (motive_2 := fun l => ∀ a ∈ ordL l, ord a = a)
  · intro k n args ih
    have e : ordL (turn k (ordL args)) = turn k (ordL args) := by
      rw [ordL_map]
      conv => rhs; rw [← List.map_id (turn k (ordL args))]
      exact List.map_congr_left fun a ha => ih a (turn_mem ha)
    simp only [ord, e, turn_turn]
  · intro a ha; simp [ordL] at ha
  · intro a r iha ihr b hb
    simp only [ordL, List.mem_cons] at hb
    rcases hb with rfl | hb
    · exact iha
    · exact ihr b hb
/-- A term in order, of form, of a bounded size. -/
def good (t : Tm) : Prop := form t = true ∧ size t ≤ 2000 ∧ ord t = t
theorem good_ord {t : Tm} (h : may t = true) : good (ord t) := ⟨by rw [form_ord]; exact ((may_iff t).1 h).1, by rw [size_ord]; exact ((may_iff t).1 h).2, ord_ord t⟩
theorem good.arg {k n : Int} {args : List Tm} {a : Tm} (h : good (.mk k n args)) (ha : a ∈ args) : good a := by
  refine ⟨form_mem h.1 ha, ?_, ?_⟩
  · have := size_mem ha; have := h.2.1; simp only [size] at this; omega
  · have e := h.2.2
    simp only [ord, Tm.mk.injEq, true_and] at e
    rw [← e] at ha
    have := turn_mem ha
    rw [ordL_map, List.mem_map] at this
    obtain ⟨b, hb, rfl⟩ := this
    exact ord_ord b
end Go.Proofs.YtfhpnkmhppfeiaaDoor
