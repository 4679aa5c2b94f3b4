/- Reading a term, in plain Lean: runs of letters, kinds of names, what stands behind a name. Reading a term, in plain Lean: what a text from a place tells of the term whose text it begins with. -/
import Derived.Test.YtfhpnkmhppfeiaaDoorPlain2
import Derived.Test.YtfhpnkmhppfeiaaDoorG5
/- Reading a term, in plain Lean: runs of letters, kinds of names, what stands behind a name. -/
set_option linter.unusedVariables false
namespace Go.Proofs.YtfhpnkmhppfeiaaDoor
/-- Where a run of letters ends. -/
def runL (s : Bs) (at_ : Nat) : Nat := at_ + ((s.drop at_).takeWhile low).length
theorem runL_step {s : Bs} {j : Nat} {c : UInt8} (h : s[j]? = some c) : runL s j = if low c = true then runL s (j + 1) else j := by
  have hl := (List.getElem?_eq_some_iff.1 h).1
  unfold runL
  rw [List.drop_eq_getElem_cons hl]
  have : s[j] = c := by rw [List.getElem?_eq_getElem hl] at h; exact Option.some.inj h
  rw [this]
  by_cases hd : low c = true
  · rw [if_pos hd, List.takeWhile_cons_of_pos hd, List.length_cons]; omega
  · rw [if_neg hd, List.takeWhile_cons_of_neg hd]; rfl
theorem runL_end {s : Bs} : runL s s.length = s.length := by unfold runL; simp
theorem runL_le (s : Bs) {p : Nat} (h : p ≤ s.length) : p ≤ runL s p ∧ runL s p ≤ s.length := by
  unfold runL
  have := (List.takeWhile_sublist low (l := s.drop p)).length_le
  rw [List.length_drop] at this
  omega
theorem takeWhile_cut {p : UInt8 → Bool} {u x : Bs} (hu : ∀ c ∈ u, p c = true) (hx : noHd p x) : (u ++ x).takeWhile p = u := by
  rw [List.takeWhile_append_of_pos hu]
  cases x with
  | nil => simp
  | cons c r => rw [List.takeWhile_cons_of_neg (by rw [hx c rfl]; simp), List.append_nil]
/-- A text from a place, cut into a run of letters and what follows. -/
theorem runL_cut {s u x : Bs} {p : Nat} (h : s.drop p = u ++ x) (hu : ∀ c ∈ u, low c = true) (hx : noHd low x) : runL s p = p + u.length ∧ (s.take (runL s p)).drop p = u ∧ s.drop (runL s p) = x := by
  have e : runL s p = p + u.length := by unfold runL; rw [h, takeWhile_cut hu hx]
  rw [e]
  refine ⟨rfl, ?_, ?_⟩
  · rw [List.drop_take, h, show p + u.length - p = u.length by omega, List.take_left' rfl]
  · rw [← List.drop_drop, h, List.drop_left' rfl]
/-- The kind of a name; 0: none. -/
def kOf (u : Bs) : Nat → Int
  | 0 => 0
  | j + 1 => if u = kname ((j : Int) + 1) then (j : Int) + 1 else kOf u j
theorem kOf_name {k : Int} (hk : isKind k = true) : kOf (kname k) 9 = k := by
  simp only [isKind, decide_eq_true_eq] at hk
  have : k = 1 ∨ k = 2 ∨ k = 3 ∨ k = 4 ∨ k = 5 ∨ k = 6 ∨ k = 7 ∨ k = 8 ∨ k = 9 := by omega
  rcases this with rfl | rfl | rfl | rfl | rfl | rfl | rfl | rfl | rfl <;> decide
theorem kOf_rng (u : Bs) (j : Nat) : 0 ≤ kOf u j ∧ kOf u j ≤ j := by
  induction j with
  | zero => simp [kOf]
  | succ j ih => simp only [kOf]; split <;> omega
/-- What stands behind a name: the Args. -/
def tlL : Bool → List Tm → Bs
  | _, [] => [41]
  | first, a :: r => (if first = true then 40 else 44) :: (txt a ++ tlL false r)
theorem txt_tl {k : Int} {args : List Tm} (hf : form (.mk k 0 args) = true) (hk : 3 ≤ k) : txt (.mk k 0 args) = kname k ++ tlL true args := by
  have hh := headOK_iff.1 (form_head hf).1
  by_cases h : k = 3 ∨ k = 9
  · have := hh.2.1
    rw [ar1 h] at this
    obtain ⟨a, rfl⟩ := List.length_eq_one_iff.1 this
    rw [txt1 h]; simp [tlL]
  · have := hh.2.1
    rw [ar2 (by omega) (by omega)] at this
    match args, this with
    | [a, b], _ => rw [txt2 (by omega) (by omega)]; simp [tlL]
theorem tlL_low (first : Bool) (l : List Tm) (x : Bs) : noHd low (tlL first l ++ x) := by
  cases l with
  | nil => exact noHd_cons (by decide)
  | cons a r => cases first <;> exact noHd_cons (by decide)
theorem tlL_dig (l : List Tm) (x : Bs) : noHd dig (tlL false l ++ x) := by
  cases l with
  | nil => exact noHd_cons (by decide)
  | cons a r => exact noHd_cons (by decide)
end Go.Proofs.YtfhpnkmhppfeiaaDoor
/- Reading a term, in plain Lean: what a text from a place tells of the term whose text it begins with. -/
set_option linter.unusedVariables false
namespace Go.Proofs.YtfhpnkmhppfeiaaDoor
/-- From a place a text begins with that of a term. -/
structure Want (s : Bs) (p : Nat) (l : Int) (t : Tm) (x : Bs) : Prop where
  hf : form t = true
  hr : rng t
  ht : s.drop p = txt t ++ x
  hx : noHd dig x
  hs : (size t : Int) ≤ l
theorem drop_cons {s : Bs} {j : Nat} {c : UInt8} {y : Bs} (h : s.drop j = c :: y) : j < s.length ∧ s[j]? = some c ∧ s.drop (j + 1) = y := by
  have hl : j < s.length := by
    rcases Nat.lt_or_ge j s.length with h1 | h1
    · exact h1
    · rw [List.drop_eq_nil_of_le h1] at h; cases h
  rw [List.drop_eq_getElem_cons hl] at h
  cases h
  exact ⟨hl, List.getElem?_eq_getElem hl, rfl⟩
theorem runD_cut {s u x : Bs} {p : Nat} (h : s.drop p = u ++ x) (hu : ∀ c ∈ u, dig c = true) (hx : noHd dig x) : runD s p = p + u.length ∧ (s.take (runD s p)).drop p = u := by
  have e : runD s p = p + u.length := by unfold runD; rw [h, takeWhile_cut hu hx]
  rw [e]
  refine ⟨rfl, ?_⟩
  rw [List.drop_take, h, show p + u.length - p = u.length by omega, List.take_left' rfl]
theorem nDigits_le19 (n : Nat) (h : n < 10 ^ 19) : Lib.nDigits n ≤ 19 := by
  have key : ∀ (m n : Nat), n < 10 ^ (m + 1) → Lib.nDigits n ≤ m + 1 := by
    intro m
    induction m with
    | zero => intro n hn; rw [Lib.nDigits_small (by simpa using hn)]; omega
    | succ m ih =>
      intro n hn
      by_cases h10 : n < 10
      · rw [Lib.nDigits_small h10]; omega
      · rw [Lib.nDigits_big h10]
        have := ih (n / 10) (by rw [Nat.pow_succ] at hn; omega)
        omega
  exact key 18 n h
theorem Want.head {s x : Bs} {p : Nat} {l k n : Int} {args : List Tm} (h : Want s p l (.mk k n args) x) :
    (1 ≤ k ∧ k ≤ 9) ∧ args.length = arity k ∧ 0 ≤ n ∧ (n = 0 ∨ arity k = 0) := headOK_iff.1 (form_head h.hf).1
theorem Want.name {s x : Bs} {p : Nat} {l k n : Int} {args : List Tm} (h : Want s p l (.mk k n args) x) : kOf ((s.take (runL s p)).drop p) 9 = k ∧
    ((k = 1 ∨ k = 2) → args = [] ∧ ∃ u : Nat, n = u ∧ u ≤ 9223372036854775807 ∧ runD s (runL s p) = runL s p + (Lib.decDigits u).length ∧ (s.take (runD s (runL s p))).drop (runL s p) = Lib.decDigits u ∧ (Lib.decDigits u).length ≤ 19 ∧ p + (txt (.mk k n args)).length = runD s (runL s p)) ∧
    (3 ≤ k → n = 0 ∧ s.drop (runL s p) = tlL true args ++ x ∧ p + (txt (.mk k n args)).length = runL s p + (tlL true args).length) := by
  obtain ⟨hk, hl, hn, hn2⟩ := h.head
  have hkk : isKind k = true := by simp only [isKind, decide_eq_true_eq]; exact hk
  by_cases h3 : k = 1 ∨ k = 2
  · have ha : args = [] := by rw [ar0 h3] at hl; exact List.length_eq_zero_iff.1 hl
    subst ha
    have ht := h.ht
    have hr : i64 n := h.hr.2.1
    rw [txt0 h3, itoa_nat hn, List.append_assoc] at ht
    obtain ⟨e1, e2, e3⟩ := runL_cut ht (kname_low k) (hd_dec _ _)
    obtain ⟨e4, e5⟩ := runD_cut e3 (dec_dig _) h.hx
    refine ⟨by rw [e2, kOf_name hkk], fun _ => ⟨rfl, n.toNat, by omega, by have := hr.2; omega, e4, e5, ?_, ?_⟩, fun hh => by omega⟩
    · rw [decDigits_short]; exact nDigits_le19 _ (by have := hr.2; omega)
    · rw [e4, e1, txt0 h3, itoa_nat hn, List.length_append]; omega
  · have hn0 : n = 0 := by
      rcases hn2 with h | h
      · exact h
      · by_cases h4 : k = 3 ∨ k = 9
        · rw [ar1 h4] at h; cases h
        · rw [ar2 (by omega) (by omega)] at h; cases h
    subst hn0
    have ht := h.ht
    rw [txt_tl h.hf (by omega), List.append_assoc] at ht
    obtain ⟨e1, e2, e3⟩ := runL_cut ht (kname_low k) (tlL_low _ _ _)
    refine ⟨by rw [e2, kOf_name hkk], fun hh => absurd hh h3, fun _ => ⟨rfl, e3, ?_⟩⟩
    rw [txt_tl h.hf (by omega), e1, List.length_append]; omega
/-- In the midst of the Args. -/
def Mid (s : Bs) (p : Nat) (l : Int) (k : Int) (i cur : Nat) (l2 : Int) (done : List Tm) : Prop :=
  ∀ t x, Want s p l t x → ∃ args, t = .mk k 0 args ∧ args.length = arity k ∧ args.take i = done ∧ s.drop cur = tlL (decide (i = 0)) (args.drop i) ++ x ∧ l2 = l - 1 - sizeL done ∧ p + (txt t).length = cur + (tlL (decide (i = 0)) (args.drop i)).length
theorem Mid.first {s : Bs} {p : Nat} {l k : Int} (hk : kOf ((s.take (runL s p)).drop p) 9 = k) (h3 : 3 ≤ k) : Mid s p l k 0 (runL s p) (l - 1) [] := by
  rintro ⟨k', n, args⟩ x h
  obtain ⟨e1, _, e3⟩ := h.name
  rw [hk] at e1
  subst e1
  obtain ⟨rfl, e4, e5⟩ := e3 h3
  exact ⟨args, rfl, h.head.2.1, rfl, by simpa using e4, by simp [sizeL], by simpa using e5⟩
theorem Mid.bad {s : Bs} {p : Nat} {l k : Int} {i cur : Nat} {l2 : Int} {done : List Tm} (h : Mid s p l k i cur l2 done) (hi : i < arity k) (hc : s[cur]? ≠ some (if i = 0 then 40 else 44)) (t : Tm) (x : Bs) : ¬ Want s p l t x := by
  intro hw
  obtain ⟨args, rfl, hl, e1, e2, _⟩ := h t x hw
  rw [List.drop_eq_getElem_cons (l := args) (i := i) (by omega)] at e2
  simp only [tlL, List.cons_append] at e2
  have := (drop_cons e2).2.1
  rw [this] at hc
  by_cases h0 : i = 0 <;> simp [h0] at hc
theorem Mid.inner {s : Bs} {p : Nat} {l k : Int} {i cur : Nat} {l2 : Int} {done : List Tm} (h : Mid s p l k i cur l2 done) (hi : i < arity k) {t : Tm} {x : Bs} (hw : Want s p l t x) :
    ∃ (args : List Tm) (a : Tm), t = .mk k 0 args ∧ args[i]? = some a ∧ Want s (cur + 1) l2 a (tlL false (args.drop (i + 1)) ++ x) := by
  obtain ⟨args, rfl, hl, e1, e2, e3, e4⟩ := h t x hw
  rw [List.drop_eq_getElem_cons (l := args) (i := i) (by omega)] at e2
  simp only [tlL, List.cons_append] at e2
  have hg := List.getElem?_eq_getElem (l := args) (i := i) (by omega)
  refine ⟨args, _, rfl, hg, form_mem hw.hf (List.mem_of_getElem? hg), (rngL_iff _).1 hw.hr.2.2 _ (List.mem_of_getElem? hg), ?_, tlL_dig _ _, ?_⟩
  · rw [(drop_cons e2).2.2, List.append_assoc]
  · have hs := hw.hs
    have := sizeL_append (args.take i) (args.drop i)
    rw [List.take_append_drop, List.drop_eq_getElem_cons (l := args) (i := i) (by omega)] at this
    simp only [size, sizeL] at hs this
    rw [e3, ← e1]
    omega
theorem Mid.fail {s : Bs} {p : Nat} {l k : Int} {i cur : Nat} {l2 : Int} {done : List Tm} (h : Mid s p l k i cur l2 done) (hi : i < arity k) (hn : ∀ t x, ¬ Want s (cur + 1) l2 t x) (t : Tm) (x : Bs) : ¬ Want s p l t x := by
  intro hw
  obtain ⟨args, a, _, _, hh⟩ := h.inner hi hw
  exact hn _ _ hh
theorem Mid.next {s : Bs} {p : Nat} {l k : Int} {i cur : Nat} {l2 l3 : Int} {done : List Tm} (h : Mid s p l k i cur l2 done) (hi : i < arity k) {t' : Tm} {q : Nat}
    (hn : ∀ t x, Want s (cur + 1) l2 t x → t = t' ∧ q = cur + 1 + (txt t).length ∧ l3 = l2 - size t) : Mid s p l k (i + 1) q l3 (done ++ [t']) := by
  intro t x hw
  obtain ⟨args, a, rfl, ha, hh⟩ := h.inner hi hw
  obtain ⟨rfl, rfl, rfl⟩ := hn _ _ hh
  obtain ⟨args', e, hl, e1, e2, e3, e4⟩ := h _ x hw
  cases e
  have hlt := (List.getElem?_eq_some_iff.1 ha)
  rw [List.drop_eq_getElem_cons hlt.1, hlt.2] at e4
  simp only [tlL, List.length_cons, List.length_append] at e4
  refine ⟨args, rfl, hl, ?_, ?_, ?_, ?_⟩
  · rw [List.take_add_one, ha, e1]; rfl
  · have := hh.ht
    rw [show decide (i + 1 = 0) = false by simp, ← List.drop_drop, this, List.drop_left' rfl]
  · rw [e3, sizeL_append]; simp only [sizeL]; omega
  · rw [show decide (i + 1 = 0) = false by simp, e4]; omega
theorem Mid.last {s : Bs} {p : Nat} {l k : Int} {cur : Nat} {l2 : Int} {done : List Tm} (h : Mid s p l k (arity k) cur l2 done) (h3 : 0 < arity k) {t : Tm} {x : Bs} (hw : Want s p l t x) :
    t = .mk k 0 done ∧ s[cur]? = some 41 ∧ cur + 1 = p + (txt t).length ∧ l2 = l - size t := by
  obtain ⟨args, rfl, hl, e1, e2, e3, e4⟩ := h t x hw
  rw [← hl, List.drop_length] at e2 e4
  simp only [tlL, List.cons_append, List.length_cons, List.length_nil] at e2 e4
  rw [← hl, List.take_length] at e1
  subst e1
  refine ⟨rfl, (drop_cons e2).2.1, by omega, by rw [e3]; simp only [size]; omega⟩
end Go.Proofs.YtfhpnkmhppfeiaaDoor
