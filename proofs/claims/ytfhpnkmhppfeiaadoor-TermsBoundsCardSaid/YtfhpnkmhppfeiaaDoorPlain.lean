/- The terms as plain data, and what the program's functions compute of them, in plain Lean: no program, no memory. -/
import Derived.Lib.ItoaNum
import Derived.Lib.Join
namespace Go.Proofs.YtfhpnkmhppfeiaaDoor

abbrev Bs := List UInt8

inductive Tm where
  | mk (k n : Int) (args : List Tm)

def Tm.k : Tm → Int | .mk k _ _ => k
def Tm.n : Tm → Int | .mk _ n _ => n
def Tm.args : Tm → List Tm | .mk _ _ a => a
theorem Tm.eta (t : Tm) : t = .mk t.k t.n t.args := by cases t; rfl

/-- How many Args a kind has. -/
def arity (k : Int) : Nat := if k = 3 ∨ k = 9 then 1 else if 4 ≤ k ∧ k ≤ 8 then 2 else 0
def isKind (k : Int) : Bool := decide (1 ≤ k ∧ k ≤ 9)
def kname (k : Int) : Bs :=
  if k = 1 then [100] else if k = 2 then [115] else if k = 3 then [112, 117, 98, 108, 105, 99] else if k = 4 then [115, 101, 97, 108] else if k = 5 then [115, 105, 103, 110]
  else if k = 6 then [109, 97, 99] else if k = 7 then [112, 97, 105, 114] else if k = 8 then [115, 104, 97, 114, 101, 100] else if k = 9 then [104, 97, 115, 104] else []

/-- Is the head of a term so? -/
def headOK (k n : Int) (len : Nat) : Bool := isKind k && (len == arity k) && decide (0 ≤ n) && (decide (n = 0) || (arity k == 0))

mutual
def form : Tm → Bool
  | .mk k n args => headOK k n args.length && formL args
def formL : List Tm → Bool
  | [] => true
  | a :: r => form a && formL r
end
mutual
def size : Tm → Nat
  | .mk _ _ args => 1 + sizeL args
def sizeL : List Tm → Nat
  | [] => 0
  | a :: r => size a + sizeL r
end
mutual
def fits : Tm → Int → Bool × Int
  | .mk k n args, left => if headOK k n args.length && decide (0 ≤ left - 1) then fitsL args (left - 1) else (false, left - 1)
def fitsL : List Tm → Int → Bool × Int
  | [], left => (true, left)
  | a :: r, left => if (fits a left).1 then fitsL r (fits a left).2 else (false, (fits a left).2)
end
mutual
def txt : Tm → Bs
  | .mk k n args => if arity k = 0 then kname k ++ Lib.itoa n else kname k ++ [40] ++ Lib.join (txtL args) [44] ++ [41]
def txtL : List Tm → List Bs
  | [] => []
  | a :: r => txt a :: txtL r
end
theorem txtL_map (l : List Tm) : txtL l = l.map txt := by
  induction l with
  | nil => rfl
  | cons a r ih => simp [txtL, ih]
theorem formL_all (l : List Tm) : formL l = l.all form := by
  induction l with
  | nil => rfl
  | cons a r ih => simp [formL, ih]

/-- Bytes: is the first one below the second one. -/
def bLess : Bs → Bs → Bool
  | _, [] => false
  | [], _ :: _ => true
  | a :: x, b :: y => a < b || (a == b && bLess x y)
def bGt (a b : Bs) : Bool := !bLess a b && !(a == b)

/-- The two of a shared one, in order. -/
def turn (k : Int) (l : List Tm) : List Tm :=
  match l with
  | [a, b] => if k = 8 && bGt (txt a) (txt b) then [b, a] else [a, b]
  | l => l
mutual
def ord : Tm → Tm
  | .mk k n args => .mk k n (turn k (ordL args))
def ordL : List Tm → List Tm
  | [] => []
  | a :: r => ord a :: ordL r
end
theorem ordL_map (l : List Tm) : ordL l = l.map ord := by
  induction l with
  | nil => rfl
  | cons a r ih => simp [ordL, ih]

def may (t : Tm) : Bool := form t && decide (size t ≤ 2000)
def mayL (l : List Tm) : Bool := decide (l.length ≤ 500) && l.all may

/-! ### sizes, forms -/
theorem size_pos (t : Tm) : 1 ≤ size t := by cases t; simp [size]
theorem sizeL_ge (l : List Tm) : l.length ≤ sizeL l := by
  induction l with
  | nil => simp [sizeL]
  | cons a r ih => have := size_pos a; simp [sizeL]; omega
theorem size_mem {a : Tm} {l : List Tm} (h : a ∈ l) : size a ≤ sizeL l := by
  induction l with
  | nil => simp at h
  | cons b r ih =>
    simp only [sizeL]
    rcases List.mem_cons.1 h with rfl | h
    · omega
    · have := ih h; omega

theorem fits_le : (∀ (t : Tm) (left : Int), (fits t left).2 ≤ left) := by
  intro t
  apply Tm.rec (motive_1 := fun t => ∀ left, (fits t left).2 ≤ left) (motive_2 := fun l => ∀ left, (fitsL l left).2 ≤ left)
  · intro k n args ih left
    simp only [fits]
    split
    · have := ih (left - 1); omega
    · simp only []; omega
  · intro left; simp [fitsL]
  · intro a r iha ihr left
    simp only [fitsL]
    split
    · have := iha left; have := ihr (fits a left).2; omega
    · exact iha left

theorem fits_spec (t : Tm) : ∀ left : Int, 0 ≤ left → ((fits t left).1 = true ↔ form t = true ∧ (size t : Int) ≤ left) ∧ ((fits t left).1 = true → (fits t left).2 = left - size t) := by
  apply Tm.rec (motive_1 := fun t => ∀ left : Int, 0 ≤ left → ((fits t left).1 = true ↔ form t = true ∧ (size t : Int) ≤ left) ∧ ((fits t left).1 = true → (fits t left).2 = left - size t))
    (motive_2 := fun l => ∀ left : Int, 0 ≤ left → ((fitsL l left).1 = true ↔ formL l = true ∧ (sizeL l : Int) ≤ left) ∧ ((fitsL l left).1 = true → (fitsL l left).2 = left - sizeL l))
  · intro k n args ih left hl
    simp only [fits, form, size]
    by_cases h1 : headOK k n args.length = true
    · by_cases h2 : 0 ≤ left - 1
      · rw [if_pos (by rw [h1, decide_eq_true h2]; rfl)]
        obtain ⟨i1, i2⟩ := ih (left - 1) h2
        refine ⟨?_, fun h => ?_⟩
        · rw [i1, h1, Bool.true_and]
          constructor
          · rintro ⟨a, b⟩; exact ⟨a, by omega⟩
          · rintro ⟨a, b⟩; exact ⟨a, by omega⟩
        · have := i2 h; omega
      · rw [if_neg (by rw [decide_eq_false h2]; simp)]
        refine ⟨⟨fun h => by simp at h, fun h => ?_⟩, fun h => by simp at h⟩
        have := h.2
        omega
    · rw [if_neg (by rw [Bool.and_eq_true]; exact fun h => h1 h.1)]
      refine ⟨⟨fun h => by simp at h, fun h => ?_⟩, fun h => by simp at h⟩
      rw [Bool.and_eq_true] at h
      exact absurd h.1.1 h1
  · intro left hl
    simp [fitsL, formL, sizeL, hl]
  · intro a r iha ihr left hl
    obtain ⟨a1, a2⟩ := iha left hl
    simp only [fitsL, formL, sizeL, Bool.and_eq_true]
    by_cases h : (fits a left).1 = true
    · rw [if_pos h]
      have e := a2 h
      rw [a1] at h
      obtain ⟨i1, i2⟩ := ihr (fits a left).2 (by omega)
      refine ⟨?_, fun hh => ?_⟩
      · rw [i1, e]
        constructor
        · rintro ⟨p, q⟩; exact ⟨⟨h.1, p⟩, by omega⟩
        · rintro ⟨p, q⟩; exact ⟨p.2, by omega⟩
      · have := i2 hh; omega
    · rw [if_neg h]
      refine ⟨⟨fun hh => by simp at hh, fun hh => ?_⟩, fun hh => by simp at hh⟩
      exact absurd (a1.2 ⟨hh.1.1, by omega⟩) h

theorem may_iff (t : Tm) : may t = true ↔ form t = true ∧ size t ≤ 2000 := by simp [may]
theorem may_fits (t : Tm) : (fits t 2000).1 = may t := by
  rw [Bool.eq_iff_iff, (fits_spec t 2000 (by omega)).1, may_iff]
  constructor
  · rintro ⟨a, b⟩; exact ⟨a, by omega⟩
  · rintro ⟨a, b⟩; exact ⟨a, by omega⟩

theorem form_head {k n : Int} {args : List Tm} (h : form (.mk k n args) = true) : headOK k n args.length = true ∧ formL args = true := by simpa [form] using h
theorem form_mem {k n : Int} {args : List Tm} (h : form (.mk k n args) = true) {a : Tm} (ha : a ∈ args) : form a = true := by
  have := (form_head h).2
  rw [formL_all, List.all_eq_true] at this
  exact this a ha
theorem headOK_iff {k n : Int} {len : Nat} : headOK k n len = true ↔ (1 ≤ k ∧ k ≤ 9) ∧ len = arity k ∧ 0 ≤ n ∧ (n = 0 ∨ arity k = 0) := by
  simp [headOK, isKind, and_assoc]

/-! ### texts are short -/
theorem decDigits_short (n : Nat) : (Lib.decDigits n).length = Lib.nDigits n := by
  rw [Lib.decDigits_eq]; simp
theorem nDigits_le20 (n : Nat) (h : n < 10 ^ 20) : Lib.nDigits n ≤ 20 := by
  have key : ∀ (m n : Nat), n < 10 ^ (m + 1) → Lib.nDigits n ≤ m + 1 := by
    intro m
    induction m with
    | zero => intro n hn; rw [Lib.nDigits_small (by simpa using hn)]; omega
    | succ m ih =>
      intro n hn
      by_cases h10 : n < 10
      · rw [Lib.nDigits_small h10]; omega
      · rw [Lib.nDigits_big h10]
        have := ih (n / 10) (by rw [Nat.pow_succ] at hn; omega)
        omega
  exact key 19 n h
theorem itoa_short (n : Int) (h0 : -9223372036854775808 ≤ n) (h1 : n ≤ 9223372036854775807) : (Lib.itoa n).length ≤ 21 := by
  unfold Lib.itoa
  split
  · simp only [List.length_cons, decDigits_short]
    have := nDigits_le20 n.natAbs (by omega)
    omega
  · rw [decDigits_short]
    have := nDigits_le20 n.toNat (by omega)
    omega
theorem kname_short (k : Int) : (kname k).length ≤ 6 := by
  unfold kname
  repeat' split
  all_goals simp

mutual
def big : Tm → Nat
  | .mk _ _ args => 30 + bigL args
def bigL : List Tm → Nat
  | [] => 0
  | a :: r => big a + 1 + bigL r
end
mutual
def rng : Tm → Prop
  | .mk k n args => (-9223372036854775808 ≤ k ∧ k ≤ 9223372036854775807) ∧ (-9223372036854775808 ≤ n ∧ n ≤ 9223372036854775807) ∧ rngL args
def rngL : List Tm → Prop
  | [] => True
  | a :: r => rng a ∧ rngL r
end
theorem rngL_iff (l : List Tm) : rngL l ↔ ∀ a ∈ l, rng a := by
  induction l with
  | nil => simp [rngL]
  | cons a r ih => simp [rngL, ih]

theorem join_length_le (xs : List Bs) (sep : Bs) : (Lib.join xs sep).length ≤ (xs.map fun x => x.length + sep.length).sum := by
  cases xs with
  | nil => simp [Lib.join_nil]
  | cons x r =>
    rw [Lib.join_cons]
    simp only [List.length_append, List.map_cons, List.sum_cons, Lib.joinTail]
    have h : ((r.map (sep ++ ·)).flatten).length = (r.map fun x => x.length + sep.length).sum := by
      rw [List.length_flatten, List.map_map]
      congr 1
      apply List.map_congr_left
      intro a _
      simp [Function.comp, Nat.add_comm]
    rw [h]
    omega

theorem txt_big (t : Tm) : rng t → (txt t).length ≤ big t := by
  apply Tm.rec (motive_1 := fun t => rng t → (txt t).length ≤ big t) (motive_2 := fun l => rngL l → ((txtL l).map fun x => x.length + 1).sum ≤ bigL l)
  · intro k n args ih h
    simp only [rng] at h
    simp only [txt, big]
    have hk := kname_short k
    split
    · have := itoa_short n h.2.1.1 h.2.1.2
      simp only [List.length_append]
      omega
    · have h1 := ih h.2.2
      have h2 := join_length_le (txtL args) [44]
      simp only [List.length_cons, List.length_nil, Nat.zero_add] at h2
      simp only [List.length_append, List.length_cons, List.length_nil]
      omega
  · intro _; simp [txtL, bigL]
  · intro a r iha ihr h
    simp only [rngL] at h
    simp only [txtL, bigL, List.map_cons, List.sum_cons]
    have := iha h.1
    have := ihr h.2
    omega
theorem big_le1 (t : Tm) : big t + 1 ≤ 31 * size t := by
  apply Tm.rec (motive_1 := fun t => big t + 1 ≤ 31 * size t) (motive_2 := fun l => bigL l ≤ 31 * sizeL l)
  · intro k n args ih; simp only [big, size]; omega
  · simp [bigL, sizeL]
  · intro a r iha ihr; simp only [bigL, sizeL]; omega
theorem big_le (t : Tm) : big t ≤ 31 * size t := by have := big_le1 t; omega
theorem txt_short {t : Tm} (hr : rng t) (hs : size t ≤ 2000) : (txt t).length ≤ 62000 := by
  have := txt_big t hr
  have := big_le t
  omega

/-! ### a term's order -/
theorem sizeL_append (a b : List Tm) : sizeL (a ++ b) = sizeL a + sizeL b := by
  induction a with
  | nil => simp [sizeL]
  | cons x r ih => simp only [List.cons_append, sizeL, ih]; omega
theorem turn_cases (k : Int) (l : List Tm) : turn k l = l ∨ ∃ a b, l = [a, b] ∧ turn k l = [b, a] := by
  unfold turn
  split
  · split
    · exact .inr ⟨_, _, rfl, rfl⟩
    · exact .inl rfl
  · exact .inl rfl
theorem size_ord (t : Tm) : size (ord t) = size t := by
  apply Tm.rec (motive_1 := fun t => size (ord t) = size t) (motive_2 := fun l => sizeL (ordL l) = sizeL l)
  · intro k n args ih
    simp only [ord, size]
    rcases turn_cases k (ordL args) with h | ⟨a, b, h1, h2⟩
    · rw [h, ih]
    · rw [h2, ← ih, h1]; simp only [sizeL]; omega
  · rfl
  · intro a r iha ihr; simp only [ordL, sizeL, iha, ihr]
theorem form_ord (t : Tm) : form (ord t) = form t := by
  apply Tm.rec (motive_1 := fun t => form (ord t) = form t) (motive_2 := fun l => formL (ordL l) = formL l ∧ (ordL l).length = l.length)
  · intro k n args ih
    simp only [ord, form]
    rcases turn_cases k (ordL args) with h | ⟨a, b, h1, h2⟩
    · rw [h, ih.1, ih.2]
    · rw [h2, ← ih.1, ← ih.2, h1]; simp only [formL, List.length_cons, List.length_nil, Bool.and_true]; rw [Bool.and_comm (form b)]
  · exact ⟨rfl, rfl⟩
  · intro a r iha ihr; simp only [ordL, formL, iha, ihr.1, List.length_cons, ihr.2, and_self]
theorem may_ord (t : Tm) : may (ord t) = may t := by simp only [may, form_ord, size_ord]
end Go.Proofs.YtfhpnkmhppfeiaaDoor
