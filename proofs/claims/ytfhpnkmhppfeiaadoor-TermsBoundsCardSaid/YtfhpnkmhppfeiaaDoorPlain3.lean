/- What can be come to know: the least closed set; the laws of it. -/
import Derived.Test.YtfhpnkmhppfeiaaDoorPlain2
set_option linter.unusedVariables false
namespace Go.Proofs.YtfhpnkmhppfeiaaDoor

/-- What can be made of a set of terms. -/
inductive Made (S : Tm → Prop) : Tm → Prop
  | known {t : Tm} : S t → Made S t
  | data {n : Int} : Made S (.mk 1 n [])
  | one {k : Int} {a : Tm} : (k = 3 ∨ k = 9) → Made S a → Made S (.mk k 0 [a])
  | two {k : Int} {a b : Tm} : 4 ≤ k → k ≤ 8 → Made S a → Made S b → Made S (.mk k 0 [a, b])
  | sh1 {a b : Tm} : Made S a → S (.mk 3 0 [b]) → Made S (.mk 8 0 [a, b])
  | sh2 {a b : Tm} : Made S b → S (.mk 3 0 [a]) → Made S (.mk 8 0 [a, b])
structure Closed (L : List Tm) (S : Tm → Prop) : Prop where
  base : ∀ t ∈ L, S (ord t)
  pair : ∀ a b, S (.mk 7 0 [a, b]) → S a ∧ S b
  sign : ∀ a b, S (.mk 5 0 [a, b]) → S b
  seald : ∀ a b, S (.mk 4 0 [a, b]) → Made S a → S b
def Know (L : List Tm) (t : Tm) : Prop := ∀ S, Closed L S → S t

theorem Made.mono {S S' : Tm → Prop} (h : ∀ t, S t → S' t) {t : Tm} (m : Made S t) : Made S' t := by
  induction m with
  | known hs => exact .known (h _ hs)
  | data => exact .data
  | one hk _ ih => exact .one hk ih
  | two h1 h2 _ _ i1 i2 => exact .two h1 h2 i1 i2
  | sh1 _ hs ih => exact .sh1 ih (h _ hs)
  | sh2 _ hs ih => exact .sh2 ih (h _ hs)
theorem Made.idem {S : Tm → Prop} {t : Tm} (m : Made (Made S) t) : Made S t := by
  have pub : ∀ b, Made S (.mk 3 0 [b]) → S (.mk 3 0 [b]) ∨ Made S b := by
    intro b h
    cases h with
    | known h => exact .inl h
    | one _ h => exact .inr h
  induction m with
  | known hs => exact hs
  | data => exact .data
  | one hk _ ih => exact .one hk ih
  | two h1 h2 _ _ i1 i2 => exact .two h1 h2 i1 i2
  | sh1 _ hs ih => rcases pub _ hs with h | h; exact .sh1 ih h; exact .two (by omega) (by omega) ih h
  | sh2 _ hs ih => rcases pub _ hs with h | h; exact .sh2 ih h; exact .two (by omega) (by omega) h ih
theorem Know.closed (L : List Tm) : Closed L (Know L) :=
  ⟨fun t ht S hS => hS.base t ht, fun a b h => ⟨fun S hS => (hS.pair a b (h S hS)).1, fun S hS => (hS.pair a b (h S hS)).2⟩, fun a b h S hS => hS.sign a b (h S hS),
    fun a b h m S hS => hS.seald a b (h S hS) (m.mono fun t ht => ht S hS)⟩
theorem Closed.mono {L L' : List Tm} {S : Tm → Prop} (hl : ∀ t ∈ L, t ∈ L') (h : Closed L' S) : Closed L S := ⟨fun t ht => h.base t (hl t ht), h.pair, h.sign, h.seald⟩
theorem Know.mono {L L' : List Tm} (hl : ∀ t ∈ L, t ∈ L') {t : Tm} (h : Know L t) : Know L' t := fun S hS => h S (hS.mono hl)
/-- What can be made, as a set, is closed: so what is made anew makes no more. -/
theorem Know.cut {L : List Tm} {m : Tm} (hm : Made (Know L) (ord m)) {t : Tm} (h : Made (Know (L ++ [m])) t) : Made (Know L) t := by
  have c : Closed (L ++ [m]) (Made (Know L)) := by
    have kc := Know.closed L
    refine ⟨fun t ht => ?_, fun a b h => ?_, fun a b h => ?_, fun a b h hk => ?_⟩
    · rcases List.mem_append.1 ht with ht | ht
      · exact .known (kc.base t ht)
      · rw [List.mem_singleton] at ht; subst ht; exact hm
    · cases h with
      | known h => exact ⟨.known (kc.pair a b h).1, .known (kc.pair a b h).2⟩
      | two _ _ h1 h2 => exact ⟨h1, h2⟩
    · cases h with
      | known h => exact .known (kc.sign a b h)
      | two _ _ h1 h2 => exact h2
    · cases h with
      | known h => exact .known (kc.seald a b h hk.idem)
      | two _ _ h1 h2 => exact h2
  exact (h.mono fun t ht => ht _ c).idem
/-- A goal that can be come to know. -/
def CanP (L : List Tm) (g : Tm) : Prop := may g = true ∧ mayL L = true ∧ Made (Know L) (ord g)
open Classical in
noncomputable def canS (L : List Tm) (g : Tm) : Bool := decide (CanP L g)
theorem canS_iff {L : List Tm} {g : Tm} : canS L g = true ↔ CanP L g := by unfold canS; simp
theorem mayL_iff {L : List Tm} : mayL L = true ↔ L.length ≤ 500 ∧ ∀ t ∈ L, may t = true := by simp [mayL]
theorem canS_known {L : List Tm} (h : mayL L = true) {t : Tm} (ht : t ∈ L) : canS L t = true :=
  canS_iff.2 ⟨(mayL_iff.1 h).2 t ht, h, .known ((Know.closed L).base t ht)⟩
theorem canS_mono {L : List Tm} {m g : Tm} (h : mayL (L ++ [m]) = true) (hc : canS L g = true) : canS (L ++ [m]) g = true := by
  obtain ⟨h1, h2, h3⟩ := canS_iff.1 hc
  exact canS_iff.2 ⟨h1, h, h3.mono fun t ht => ht.mono fun a ha => List.mem_append_left _ ha⟩
theorem canS_cut {L : List Tm} {m g : Tm} (h : mayL (L ++ [m]) = true) (hm : canS L m = true) : canS (L ++ [m]) g = canS L g := by
  obtain ⟨_, h2, h3⟩ := canS_iff.1 hm
  rw [Bool.eq_iff_iff, canS_iff, canS_iff]
  constructor
  · rintro ⟨a, b, c⟩; exact ⟨a, h2, Know.cut h3 c⟩
  · rintro ⟨a, b, c⟩; exact ⟨a, h, c.mono fun t ht => ht.mono fun a ha => List.mem_append_left _ ha⟩
theorem canS_ord (L : List Tm) (g : Tm) : canS L (ord g) = canS L g := by
  rw [Bool.eq_iff_iff, canS_iff, canS_iff]
  unfold CanP
  rw [may_ord, ord_ord]

/-! ### a secret that stands nowhere where taking apart leads -/
mutual
def bareS : Tm → Int → Bool
  | .mk k n args, m => if k = 2 then decide (n = m) else if k = 7 then (bareL args m).getD 0 false || (bareL args m).getD 1 false else if k = 4 ∨ k = 5 then (bareL args m).getD 1 false else false
def bareL : List Tm → Int → List Bool
  | [], _ => []
  | a :: r, m => bareS a m :: bareL r m
end
theorem bareL_map (l : List Tm) (m : Int) : bareL l m = l.map (bareS · m) := by
  induction l with
  | nil => rfl
  | cons a r ih => simp [bareL, ih]
theorem turn_ne8 {k : Int} (h : k ≠ 8) (l : List Tm) : turn k l = l := by
  unfold turn
  split
  · rw [if_neg]; simp [h]
  · rfl
theorem bare_ord (t : Tm) (m : Int) : bareS (ord t) m = bareS t m := by
  apply Tm.rec (motive_1 := fun t => bareS (ord t) m = bareS t m) (motive_2 := fun l => bareL (ordL l) m = bareL l m)
  · intro k n args ih
    by_cases h : k = 8
    · subst h
      simp [ord, bareS]
    · simp only [ord, bareS, turn_ne8 h, ih]
  · rfl
  · intro a r i1 i2; simp only [ordL, bareL, i1, i2]
theorem canS_bare {L : List Tm} {n : Int} (h : ∀ t ∈ L, bareS t n = false) : canS L (.mk 2 n []) = false := by
  cases e : canS L (.mk 2 n []) with
  | false => rfl
  | true =>
    exfalso
    obtain ⟨_, _, m⟩ := canS_iff.1 e
    have c : Closed L (fun t => bareS t n = false) := by
      refine ⟨fun t ht => by rw [bare_ord]; exact h t ht, fun a b h => ?_, fun a b h => ?_, fun a b h _ => ?_⟩
      · simpa [bareS, bareL] using h
      · simpa [bareS, bareL] using h
      · simpa [bareS, bareL] using h
    have eo : ord (.mk 2 n []) = .mk 2 n [] := by simp [ord, ordL, turn]
    rw [eo] at m
    cases m with
    | known hk => have := hk _ c; simp [bareS] at this
/-! ### subterms -/
mutual
def subs : Tm → List Tm
  | .mk k n args => .mk k n args :: subsL args
def subsL : List Tm → List Tm
  | [] => []
  | a :: r => subs a ++ subsL r
end
theorem subs_self (t : Tm) : t ∈ subs t := by cases t; simp [subs]
theorem subsL_mem {l : List Tm} {t : Tm} : t ∈ subsL l ↔ ∃ a ∈ l, t ∈ subs a := by
  induction l with
  | nil => simp [subsL]
  | cons a r ih => simp [subsL, ih]
theorem subs_arg {k n : Int} {args : List Tm} {a : Tm} (h : a ∈ args) {t : Tm} (ht : t ∈ subs a) : t ∈ subs (.mk k n args) := by
  simp only [subs, List.mem_cons]
  exact .inr (subsL_mem.2 ⟨a, h, ht⟩)
theorem subs_trans : ∀ (c a b : Tm), a ∈ subs b → b ∈ subs c → a ∈ subs c := by
  intro c
  apply Tm.rec (motive_1 := fun c => ∀ a b, a ∈ subs b → b ∈ subs c → a ∈ subs c) (motive_2 := fun l => ∀ a b, a ∈ subs b → b ∈ subsL l → a ∈ subsL l)
  · intro k n args ih a b hab hbc
    simp only [subs, List.mem_cons] at hbc
    rcases hbc with rfl | hbc
    · exact hab
    · simp only [subs, List.mem_cons]; exact .inr (ih a b hab hbc)
  · intro a b _ h; simp [subsL] at h
  · intro x r i1 i2 a b hab h
    simp only [subsL, List.mem_append] at h ⊢
    rcases h with h | h
    · exact .inl (i1 a b hab h)
    · exact .inr (i2 a b hab h)
theorem Know.sub {L : List Tm} {t : Tm} (h : Know L t) : ∃ u ∈ L, t ∈ subs (ord u) := by
  have st : ∀ (k n : Int) (args : List Tm) (a : Tm), a ∈ args → (∃ u ∈ L, .mk k n args ∈ subs (ord u)) → ∃ u ∈ L, a ∈ subs (ord u) := fun k n args a ha ⟨u, hu, hb⟩ =>
    ⟨u, hu, subs_trans _ _ _ (subs_arg ha (subs_self a)) hb⟩
  exact h (fun t => ∃ u ∈ L, t ∈ subs (ord u)) ⟨fun t ht => ⟨t, ht, subs_self _⟩, fun a b h => ⟨st _ _ _ a (by simp) h, st _ _ _ b (by simp) h⟩, fun a b h => st _ _ _ b (by simp) h, fun a b h _ => st _ _ _ b (by simp) h⟩
theorem Made.less {S : Tm → Prop} {z c : Tm} (t : Tm) (m : Made (fun t => S t ∨ t = .mk 4 0 [z, c]) t) : .mk 4 0 [z, c] ∉ subs t → Made S t := by
  induction m with
  | known h => intro hn; rcases h with h | h; exact .known h; exact absurd (h ▸ subs_self _) hn
  | data => intro _; exact .data
  | one hk _ ih => intro hn; exact .one hk (ih fun h => hn (subs_arg (by simp) h))
  | two h1 h2 _ _ i1 i2 => intro hn; exact .two h1 h2 (i1 fun h => hn (subs_arg (by simp) h)) (i2 fun h => hn (subs_arg (by simp) h))
  | sh1 _ hs ih => intro hn; rcases hs with hs | hs; exact .sh1 (ih fun h => hn (subs_arg (by simp) h)) hs; cases hs
  | sh2 _ hs ih => intro hn; rcases hs with hs | hs; exact .sh2 (ih fun h => hn (subs_arg (by simp) h)) hs; cases hs
theorem ord_sec (n : Int) : ord (.mk 2 n []) = .mk 2 n [] := by simp [ord, ordL, turn]
theorem ord_seal (n : Int) (c : Tm) : ord (.mk 4 0 [.mk 2 n [], c]) = .mk 4 0 [.mk 2 n [], ord c] := by simp [ord, ordL, turn]
theorem Made.sec {S : Tm → Prop} {n : Int} (m : Made S (.mk 2 n [])) : S (.mk 2 n []) := by
  cases m with
  | known h => exact h
theorem canS_seal {L : List Tm} {n m : Int} {c : Tm} (hm : 0 ≤ m) (hl : mayL (L ++ [.mk 4 0 [.mk 2 n [], c]]) = true) (hk : canS L (.mk 2 n []) = false) (hn : may (.mk 2 n []) = true)
    (hb : ∀ u ∈ L, ord (.mk 4 0 [.mk 2 n [], c]) ∉ subs (ord u)) : canS (L ++ [.mk 4 0 [.mk 2 n [], c]]) (.mk 2 m []) = canS L (.mk 2 m []) := by
  have hl0 : mayL L = true := by
    rw [mayL_iff] at hl ⊢
    exact ⟨by have := hl.1; simp at this; omega, fun t ht => hl.2 t (by simp [ht])⟩
  have hkm : ¬ Know L (.mk 2 n []) := fun h => by
    have : canS L (.mk 2 n []) = true := canS_iff.2 ⟨hn, hl0, by rw [ord_sec]; exact .known h⟩
    rw [hk] at this; cases this
  rw [ord_seal] at hb
  have kc := Know.closed L
  have cl : Closed (L ++ [.mk 4 0 [.mk 2 n [], c]]) (fun t => Know L t ∨ t = .mk 4 0 [.mk 2 n [], ord c]) := by
    refine ⟨fun t ht => ?_, fun a b h => ?_, fun a b h => ?_, fun a b h hmk => ?_⟩
    · rcases List.mem_append.1 ht with ht | ht
      · exact .inl (kc.base t ht)
      · rw [List.mem_singleton] at ht; subst ht; exact .inr (ord_seal n c)
    · rcases h with h | h
      · exact ⟨.inl (kc.pair a b h).1, .inl (kc.pair a b h).2⟩
      · cases h
    · rcases h with h | h
      · exact .inl (kc.sign a b h)
      · cases h
    · rcases h with h | h
      · obtain ⟨u, hu, hub⟩ := h.sub
        exact .inl (kc.seald a b h (Made.less a hmk fun hh => hb u hu (subs_trans _ _ _ (subs_arg (by simp) hh) hub)))
      · simp only [Tm.mk.injEq, List.cons.injEq, and_true, true_and] at h
        obtain ⟨rfl, rfl⟩ := h
        rcases hmk.sec with h | h
        · exact absurd h hkm
        · cases h
  rw [Bool.eq_iff_iff, canS_iff, canS_iff]
  unfold CanP
  rw [ord_sec]
  constructor
  · rintro ⟨a, b, d⟩
    rcases d.sec _ cl with h | h
    · exact ⟨a, hl0, .known h⟩
    · cases h
  · rintro ⟨a, b, d⟩
    exact ⟨a, hl, d.mono fun t ht => ht.mono fun a ha => List.mem_append_left _ ha⟩
theorem canS_open {L : List Tm} {n : Int} {c : Tm} (hl : mayL (L ++ [.mk 4 0 [.mk 2 n [], c]]) = true) (hc : may c = true) (hk : canS L (.mk 2 n []) = true) : canS (L ++ [.mk 4 0 [.mk 2 n [], c]]) c = true := by
  obtain ⟨_, _, h⟩ := canS_iff.1 hk
  rw [ord_sec] at h
  have kc := Know.closed (L ++ [.mk 4 0 [.mk 2 n [], c]])
  refine canS_iff.2 ⟨hc, hl, .known (kc.seald (.mk 2 n []) (ord c) ?_ (h.mono fun t ht => ht.mono fun a ha => List.mem_append_left _ ha))⟩
  rw [← ord_seal]
  exact kc.base _ (by simp)
/-! ### making -/
theorem ord_two {k : Int} (hk : k ≠ 8) (a b : Tm) : ord (.mk k 0 [a, b]) = .mk k 0 [ord a, ord b] := by rw [ord, turn_ne8 hk]; simp [ordL]
theorem ord_one (k : Int) (a : Tm) : ord (.mk k 0 [a]) = .mk k 0 [ord a] := by simp [ord, ordL, turn]
theorem ord_sh (a b : Tm) : ord (.mk 8 0 [a, b]) = if bGt (txt (ord a)) (txt (ord b)) = true then .mk 8 0 [ord b, ord a] else .mk 8 0 [ord a, ord b] := by
  simp only [ord, ordL, turn, decide_true, Bool.true_and]
  split <;> rfl
theorem ord_comm {a b : Tm} (ha : form a = true) (hb : form b = true) : ord (.mk 8 0 [a, b]) = ord (.mk 8 0 [b, a]) := by
  rw [ord_sh, ord_sh]
  by_cases h : bGt (txt (ord a)) (txt (ord b)) = true
  · rw [if_pos h, if_neg (by rw [bGt_asymm h]; simp)]
  · rw [if_neg h]
    by_cases h' : bGt (txt (ord b)) (txt (ord a)) = true
    · rw [if_pos h']
    · rw [if_neg h']
      rw [bGt_iff, Bool.not_eq_true] at h h'
      have e : txt (ord a) = txt (ord b) := Decidable.byContradiction fun hne => by
        have := bLess_tot hne h'; rw [h] at this; cases this
      have := txt_inj (by rw [form_ord]; exact ha) (by rw [form_ord]; exact hb) e
      rw [this]
theorem form_two {k : Int} (h : 4 ≤ k) (h' : k ≤ 8) {a b : Tm} : form (.mk k 0 [a, b]) = (form a && form b) := by
  simp [form, formL, headOK, isKind, ar2 h h']; omega
theorem form_one {k : Int} (h : k = 3 ∨ k = 9) {a : Tm} : form (.mk k 0 [a]) = form a := by
  simp [form, formL, headOK, isKind, ar1 h]; omega
theorem may_two {k : Int} (h : 4 ≤ k) (h' : k ≤ 8) {a b : Tm} (ha : may a = true) (hb : may b = true) (sa : size a ≤ 300) (sb : size b ≤ 300) : may (.mk k 0 [a, b]) = true := by
  rw [may_iff] at ha hb ⊢
  refine ⟨by rw [form_two h h', ha.1, hb.1]; rfl, ?_⟩
  simp only [size, sizeL]; omega
theorem may_one {k : Int} (h : k = 3 ∨ k = 9) {a : Tm} (ha : may a = true) (sa : size a ≤ 300) : may (.mk k 0 [a]) = true := by
  rw [may_iff] at ha ⊢
  refine ⟨by rw [form_one h, ha.1], ?_⟩
  simp only [size, sizeL]; omega
theorem canS_two {L : List Tm} {k : Int} (h : 4 ≤ k) (h' : k ≤ 8) {a b : Tm} (sa : size a ≤ 300) (sb : size b ≤ 300) (ca : canS L a = true) (cb : canS L b = true) : canS L (.mk k 0 [a, b]) = true := by
  obtain ⟨a1, a2, a3⟩ := canS_iff.1 ca
  obtain ⟨b1, b2, b3⟩ := canS_iff.1 cb
  refine canS_iff.2 ⟨may_two h h' a1 b1 sa sb, a2, ?_⟩
  by_cases e : k = 8
  · subst e
    rw [ord_sh]
    split
    · exact .two h h' b3 a3
    · exact .two h h' a3 b3
  · rw [ord_two e]; exact .two h h' a3 b3
theorem canS_one {L : List Tm} {k : Int} (h : k = 3 ∨ k = 9) {a : Tm} (sa : size a ≤ 300) (ca : canS L a = true) : canS L (.mk k 0 [a]) = true := by
  obtain ⟨a1, a2, a3⟩ := canS_iff.1 ca
  refine canS_iff.2 ⟨may_one h a1 sa, a2, ?_⟩
  rw [ord_one]; exact .one h a3
theorem canS_pair {L : List Tm} {a b : Tm} (ha : may a = true) (hb : may b = true) (sa : size a ≤ 300) (sb : size b ≤ 300) : canS L (.mk 7 0 [a, b]) = (canS L a && canS L b) := by
  rw [Bool.eq_iff_iff, Bool.and_eq_true]
  constructor
  · intro h
    obtain ⟨h1, h2, h3⟩ := canS_iff.1 h
    rw [ord_two (by omega)] at h3
    have : Made (Know L) (ord a) ∧ Made (Know L) (ord b) := by
      cases h3 with
      | known h => exact ⟨.known ((Know.closed L).pair _ _ h).1, .known ((Know.closed L).pair _ _ h).2⟩
      | two _ _ x y => exact ⟨x, y⟩
    exact ⟨canS_iff.2 ⟨ha, h2, this.1⟩, canS_iff.2 ⟨hb, h2, this.2⟩⟩
  · rintro ⟨h1, h2⟩
    exact canS_two (by omega) (by omega) sa sb h1 h2
theorem canS_comm {L : List Tm} {a b : Tm} : canS L (.mk 8 0 [a, b]) = canS L (.mk 8 0 [b, a]) := by
  rw [Bool.eq_iff_iff, canS_iff, canS_iff]
  have key : ∀ a b : Tm, CanP L (.mk 8 0 [a, b]) → CanP L (.mk 8 0 [b, a]) := by
    rintro a b ⟨h1, h2, h3⟩
    obtain ⟨f, s⟩ := (may_iff _).1 h1
    rw [form_two (by omega) (by omega), Bool.and_eq_true] at f
    refine ⟨(may_iff _).2 ⟨by rw [form_two (by omega) (by omega), f.1, f.2]; rfl, ?_⟩, h2, ?_⟩
    · simp only [size, sizeL] at s ⊢; omega
    · rw [ord_comm f.2 f.1]; exact h3
  exact ⟨key a b, key b a⟩

/-! ### what the program reckons -/
def hasT (ts : List Tm) (s : Bs) : Bool := ts.any fun t => txt t == s
theorem hasT_iff {ts : List Tm} (hf : ∀ t ∈ ts, form t = true) {t : Tm} (ht : form t = true) : hasT ts (txt t) = true ↔ t ∈ ts := by
  simp only [hasT, List.any_eq_true, beq_iff_eq]
  exact ⟨fun ⟨u, hu, e⟩ => txt_inj (hf u hu) ht e ▸ hu, fun h => ⟨t, h, rfl⟩⟩
def pubT (a : Tm) : Bs := [112, 117, 98, 108, 105, 99, 40] ++ txt a ++ [41]
theorem pubT_eq (a : Tm) : pubT a = txt (.mk 3 0 [a]) := by rw [txt1 (.inl rfl)]; simp [pubT, kname]
/-- Of a shared one: can it be made. -/
def shar (ts : List Tm) (made : List Bool) (args : List Tm) : Bool :=
  match made, args with
  | [x, y], [a, b] => x && (y || hasT ts (pubT b)) || y && hasT ts (pubT a)
  | _, _ => false
mutual
def canB (ts : List Tm) : Tm → Bool
  | .mk k n args => hasT ts (txt (.mk k n args)) || decide (k = 1) || if k = 8 then shar ts (canL ts args) args else decide (k ≠ 2) && !(canL ts args).contains false
def canL (ts : List Tm) : List Tm → List Bool
  | [] => []
  | a :: r => canB ts a :: canL ts r
end
theorem canL_map (ts l : List Tm) : canL ts l = l.map (canB ts) := by
  induction l with
  | nil => rfl
  | cons a r ih => simp [canL, ih]
theorem canB_iff {ts : List Tm} (hf : ∀ t ∈ ts, form t = true) : ∀ t, form t = true → (canB ts t = true ↔ Made (· ∈ ts) t) := by
  refine form_ind ?_ ?_ ?_
  · intro k n hk hn
    rw [canB, Bool.or_eq_true, Bool.or_eq_true, hasT_iff hf (by simp [form, formL, headOK, isKind, ar0 hk, hn]; omega)]
    rw [if_neg (by omega)]
    constructor
    · rintro ((h | h) | h)
      · exact .known h
      · simp only [decide_eq_true_eq] at h; subst h; exact .data
      · simp only [Bool.and_eq_true, decide_eq_true_eq] at h
        have : k = 1 := by omega
        subst this; exact .data
    · intro m
      cases m with
      | known h => exact .inl (.inl h)
      | data => exact .inl (.inr rfl)
  · intro k a hk ha ih
    rw [canB, Bool.or_eq_true, Bool.or_eq_true, hasT_iff hf (by rw [form_one hk, ha]), if_neg (by omega)]
    simp only [canL, Bool.and_eq_true, decide_eq_true_eq, List.contains_cons, List.contains_nil, Bool.or_false, Bool.not_eq_true']
    have e : ((false == canB ts a) = false) ↔ canB ts a = true := by cases canB ts a <;> simp
    rw [e, ih]
    constructor
    · rintro ((h | h) | h)
      · exact .known h
      · omega
      · exact .one hk h.2
    · intro m
      cases m with
      | known h => exact .inl (.inl h)
      | one _ h => exact .inr ⟨by omega, h⟩
  · intro k a b h1 h2 ha hb iha ihb
    rw [canB, Bool.or_eq_true, Bool.or_eq_true, hasT_iff hf (by rw [form_two h1 h2, ha, hb]; rfl)]
    by_cases e8 : k = 8
    · subst e8
      rw [if_pos rfl]
      simp only [canL, shar, pubT_eq, Bool.or_eq_true, Bool.and_eq_true, hasT_iff hf (show form (.mk 3 0 [a]) = true by rw [form_one (.inl rfl), ha]), hasT_iff hf (show form (.mk 3 0 [b]) = true by rw [form_one (.inl rfl), hb]), iha, ihb]
      constructor
      · rintro ((h | h) | (⟨h, h' | h'⟩ | ⟨h, h'⟩))
        · exact .known h
        · simp at h
        · exact .two h1 h2 h h'
        · exact .sh1 h h'
        · exact .sh2 h h'
      · intro m
        cases m with
        | known h => exact .inl (.inl h)
        | two _ _ x y => exact .inr (.inl ⟨x, .inl y⟩)
        | sh1 x y => exact .inr (.inl ⟨x, .inr y⟩)
        | sh2 x y => exact .inr (.inr ⟨x, y⟩)
    · rw [if_neg e8]
      simp only [canL, Bool.and_eq_true, decide_eq_true_eq, List.contains_cons, List.contains_nil, Bool.or_false, Bool.not_eq_true', Bool.or_eq_false_iff]
      have e : ∀ x : Bool, ((false == x) = false) ↔ x = true := by intro x; cases x <;> simp
      rw [e, e, iha, ihb]
      constructor
      · rintro ((h | h) | h)
        · exact .known h
        · omega
        · exact .two h1 h2 h.2.1 h.2.2
      · intro m
        cases m with
        | known h => exact .inl (.inl h)
        | two _ _ x y => exact .inr ⟨by omega, x, y⟩
        | sh1 _ _ => exact absurd rfl e8
        | sh2 _ _ => exact absurd rfl e8
/-- What a known term comes apart to. -/
def apartK (ts : List Tm) (k : Int) (args : List Tm) : List Tm :=
  if k = 7 then args else if k = 5 ∨ (k = 4 ∧ canB ts (args.getD 0 (.mk 0 0 [])) = true) then args.drop 1 else []
def apartT (ts : List Tm) : Tm → List Tm | .mk k _ args => apartK ts k args
/-- The list that learning ends with. -/
structure Learnt (L ts : List Tm) : Prop where
  good : ∀ t ∈ ts, good t
  base : ∀ t ∈ L, ord t ∈ ts
  know : ∀ t ∈ ts, Know L t
  close : ∀ t ∈ ts, ∀ a ∈ apartT ts t, a ∈ ts
theorem Learnt.iff {L ts : List Tm} (h : Learnt L ts) (t : Tm) : t ∈ ts ↔ Know L t := by
  refine ⟨h.know t, fun hk => hk (· ∈ ts) ⟨h.base, fun a b hm => ?_, fun a b hm => ?_, fun a b hm hmk => ?_⟩⟩
  · have := h.close _ hm
    simp only [apartT, apartK, if_true] at this
    exact ⟨this a (by simp), this b (by simp)⟩
  · have := h.close _ hm
    simp [apartT, apartK] at this
    exact this
  · have := h.close _ hm
    have g := h.good _ hm
    have ga : form a = true := (g.arg (a := a) (by simp)).1
    have hc : canB ts a = true := (canB_iff (fun t ht => (h.good t ht).1) a ga).2 hmk
    simp [apartT, apartK, hc] at this
    exact this
theorem Learnt.can {L ts : List Tm} (h : Learnt L ts) {g : Tm} (hg : may g = true) (hl : mayL L = true) : canB ts (ord g) = canS L g := by
  rw [Bool.eq_iff_iff, canB_iff (fun t ht => (h.good t ht).1) _ (good_ord hg).1, canS_iff]
  have e : (fun x => x ∈ ts) = Know L := funext fun t => propext (h.iff t)
  rw [e]
  exact ⟨fun m => ⟨hg, hl, m⟩, fun m => m.2.2⟩
/-- What is come apart to is known. -/
theorem Know.apart {L ts : List Tm} (hg : ∀ t ∈ ts, good t) (hk : ∀ t ∈ ts, Know L t) {t a : Tm} (ht : t ∈ ts) (ha : a ∈ apartT ts t) : Know L a ∧ good a := by
  have g := hg t ht
  have key : ∀ t, form t = true → good t → Know L t → a ∈ apartT ts t → Know L a ∧ good a := by
    refine form_ind ?_ ?_ ?_
    · intro k n h0 _ _ _ ha
      simp only [apartT, apartK] at ha
      split at ha
      · simp at ha
      · split at ha <;> simp at ha
    · intro k x h0 _ _ _ _ ha
      simp only [apartT, apartK] at ha
      rw [if_neg (by omega), if_neg (by omega)] at ha
      simp at ha
    · intro k x y h1 h2 hx hy _ _ g hk' ha
      simp only [apartT, apartK] at ha
      have kc := Know.closed L
      split at ha
      · rename_i e; subst e
        have hp := kc.pair x y hk'
        simp only [List.mem_cons, List.not_mem_nil, or_false] at ha
        rcases ha with rfl | rfl
        · exact ⟨hp.1, g.arg (by simp)⟩
        · exact ⟨hp.2, g.arg (by simp)⟩
      · split at ha
        · rename_i e
          simp only [List.drop_succ_cons, List.drop_zero, List.mem_cons, List.not_mem_nil, or_false] at ha
          subst ha
          refine ⟨?_, g.arg (by simp)⟩
          rcases e with rfl | ⟨rfl, hc⟩
          · exact kc.sign x a hk'
          · simp only [List.getD_cons_zero] at hc
            exact kc.seald x a hk' (((canB_iff (fun t ht => (hg t ht).1) x hx).1 hc).mono hk)
        · simp at ha
  exact key t g.1 g (hk t ht) ha
end Go.Proofs.YtfhpnkmhppfeiaaDoor
