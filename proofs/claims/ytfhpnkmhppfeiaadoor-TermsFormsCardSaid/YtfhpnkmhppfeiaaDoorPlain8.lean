/- terms.read, in plain Lean: a byte cut off, a number's text, the kinds' forms one after another. -/
import Derived.Test.YtfhpnkmhppfeiaaDoorShelf2
import Derived.Test.YtfhpnkmhppfeiaaDoorG6
import Derived.Test.YtfhpnkmhppfeiaaDoorBase
import Derived.Test.YtfhpnkmhppfeiaaDoorB2
set_option linter.unusedVariables false
set_option linter.unusedSimpArgs false
namespace Go.Proofs.YtfhpnkmhppfeiaaDoor
open Go.RowKit Go.Proofs
/-- strings.CutPrefix at a text from a place, and one byte. -/
theorem cut_yes {u : Bs} {cur : Nat} {c : UInt8} (h : u[cur]? = some c) (w : World) :
    Calls Tryd.prog 72 #[.string ⟨(u.drop cur).toArray⟩, .string ⟨#[c]⟩] w fun e w' => e = .returned (.tuple #[.string ⟨(u.drop (cur + 1)).toArray⟩, .bool true]) ∧ w' = w := by
  refine (Tryd.strings_CutPrefix ⟨(u.drop cur).toArray⟩ ⟨#[c]⟩ w).mono ?_
  rintro e w' ⟨rfl, rfl⟩
  have hl := (List.getElem?_eq_some_iff.1 h).1
  have hd : u.drop cur = c :: u.drop (cur + 1) := by
    rw [List.drop_eq_getElem_cons hl, (List.getElem?_eq_some_iff.1 h).2]
  have h1 : Lib.hasPrefix (u.drop cur) [c] = true := by rw [hd]; simp [Lib.hasPrefix]
  refine ⟨?_, rfl⟩
  show Ending.returned (.tuple #[.string ⟨(Lib.trimPrefix (u.drop cur) [c]).toArray⟩, .bool (Lib.hasPrefix (u.drop cur) [c])]) = _
  rw [Lib.trimPrefix, h1, if_pos rfl, hd]; rfl
theorem cut_no {u : Bs} {cur : Nat} {c : UInt8} (h : u[cur]? ≠ some c) (w : World) :
    Calls Tryd.prog 72 #[.string ⟨(u.drop cur).toArray⟩, .string ⟨#[c]⟩] w fun e w' => e = .returned (.tuple #[.string ⟨(u.drop cur).toArray⟩, .bool false]) ∧ w' = w := by
  refine (Tryd.strings_CutPrefix ⟨(u.drop cur).toArray⟩ ⟨#[c]⟩ w).mono ?_
  rintro e w' ⟨rfl, rfl⟩
  have h1 : Lib.hasPrefix (u.drop cur) [c] = false := by
    rw [Bool.eq_false_iff]
    intro hp
    apply h
    rw [← List.head?_drop]
    cases hd : u.drop cur with
    | nil => rw [hd] at hp; simp [Lib.hasPrefix] at hp
    | cons x r => rw [hd] at hp; simp [Lib.hasPrefix] at hp; simp [hp]
  refine ⟨?_, rfl⟩
  show Ending.returned (.tuple #[.string ⟨(Lib.trimPrefix (u.drop cur) [c]).toArray⟩, .bool (Lib.hasPrefix (u.drop cur) [c])]) = _
  rw [Lib.trimPrefix, h1, if_neg (by simp)]
theorem fold_le (l : Bs) : ∀ acc : Nat, acc ≤ l.foldl (fun a c => a * 10 + (c.toNat - 48)) acc := by
  induction l with
  | nil => intro acc; exact Nat.le_refl _
  | cons c r ih => intro acc; have := ih (acc * 10 + (c.toNat - 48)); simp only [List.foldl_cons]; omega
theorem parse_dig (l : Bs) : ∀ acc : Nat, (∀ c ∈ l, dig c = true) → l.foldl (fun a c => a * 10 + (c.toNat - 48)) acc ≤ 9223372036854775807 → Lib.parseUint10 acc l = .ok (l.foldl (fun a c => a * 10 + (c.toNat - 48)) acc) := by
  induction l with
  | nil => intro acc _ _; rfl
  | cons c r ih =>
    intro acc hd hm
    have hc := hd c (by simp)
    simp only [dig, decide_eq_true_eq] at hc
    simp only [List.foldl_cons] at hm ⊢
    have h1 := fold_le r (acc * 10 + (c.toNat - 48))
    rw [Lib.parseUint10, if_pos hc, if_neg (by omega), if_neg (by omega)]
    exact ih _ (fun x hx => hd x (by simp [hx])) hm
theorem atoi_dec (n : Nat) (h : n ≤ 9223372036854775807) : Lib.atoiAll (Lib.decDigits n) = .ok (n : Int) := by
  have hv := valD_dec n
  unfold valD at hv
  have hp := parse_dig (Lib.decDigits n) 0 (dec_dig n) (by rw [hv]; exact h)
  rw [hv] at hp
  have hdg := dec_dig n
  cases hd : Lib.decDigits n with
  | nil => exact absurd hd (dec_ne n)
  | cons c r =>
    rw [hd] at hp hdg
    have hc := hdg c (by simp)
    simp only [dig, decide_eq_true_eq] at hc
    rw [Lib.atoiAll]
    have h43 : ¬ (c.toNat = 43 ∨ c.toNat = 45) := by omega
    have h45 : ¬ c.toNat = 45 := by omega
    simp only [Lib.parseMag, if_neg h43]
    rw [if_neg (List.cons_ne_nil _ _), hp]
    simp only [h45, not_false_eq_true, true_and, false_and, if_false]
    rw [if_neg (by omega)]
/-- What of the variables strconv.Atoi reads. -/
def Errs (w : World) : Prop := (∃ te pe, w.cell? ⟨1, 0, none⟩ = some (.iface te pe)) ∧ ∃ te pe, w.cell? ⟨2, 0, none⟩ = some (.iface te pe)
theorem Errs.bel {w w' : World} (h : Errs w) (hb : Below w.heap.size w w') : Errs w' := by
  obtain ⟨⟨a, b, h1⟩, c, d, h2⟩ := h
  exact ⟨⟨a, b, (hb.cell (World.block_lt_of_cell? w _ h1)).trans h1⟩, c, d, (hb.cell (World.block_lt_of_cell? w _ h2)).trans h2⟩
/-- strconv.Atoi at a run of digits. -/
theorem atoi_any (s : Bs) (hs : s.length ≤ 100000) (w : World) (hE : Errs w) :
    Calls Tryd.prog 71 #[.string ⟨s.toArray⟩] w fun e w' => ∃ (x : Int) (v : Value), e = .returned (.tuple #[.int .i64 x, v]) ∧ i64 x ∧ Below w.heap.size w w' ∧
      ((v = .nilIface ∧ ∀ n : Nat, s = Lib.decDigits n → n ≤ 9223372036854775807 → x = n) ∨ ((∃ te pe, v = .iface te pe) ∧ ∀ n : Nat, s = Lib.decDigits n → n ≤ 9223372036854775807 → False)) := by
  have hz : (⟨s.toArray⟩ : ByteArray).size = s.length := bs_size s
  rcases h : Lib.atoiAll s with v | _ | _
  · have hb := Lib.atoiAll_bounds h
    refine (Tryd.strconv_Atoi_ok ⟨s.toArray⟩ (by rw [hz]; omega) v h w).mono ?_
    rintro e w' ⟨rfl, hw⟩
    refine ⟨v, _, rfl, by unfold i64; omega, ?_, .inl ⟨rfl, fun n e hn => ?_⟩⟩
    · rcases hw with rfl | ⟨t, rfl⟩
      · exact Below.refl _ _
      · exact Lib.bytesWorld_below _ _ _
    · rw [e, atoi_dec n hn] at h; injection h with h; exact h.symm
  · obtain ⟨⟨te, pe, h1⟩, _⟩ := hE
    refine (Tryd.strconv_Atoi_bad ⟨s.toArray⟩ (by rw [hz]; omega) (fun v hv => by rw [show Lib.atoiAll s = _ from hv] at h; cases h) (fun hv => by rw [show Lib.atoiAll s = _ from hv] at h; cases h) _ w h1 (.inr ⟨te, pe, rfl⟩)).mono ?_
    rintro e w' ⟨N, rfl, _, _, hb⟩
    exact ⟨0, _, rfl, by unfold i64; omega, hb, .inr ⟨⟨_, _, rfl⟩, fun n e hn => by rw [e, atoi_dec n hn] at h; cases h⟩⟩
  · obtain ⟨_, te, pe, h1⟩ := hE
    have hb := Lib.atoiSat_bounds s
    refine (Tryd.strconv_Atoi_range ⟨s.toArray⟩ (by rw [hz]; omega) h _ w h1 (.inr ⟨te, pe, rfl⟩)).mono ?_
    rintro e w' ⟨N, rfl, _, _, hb2⟩
    exact ⟨Lib.atoiSat s, _, rfl, by unfold i64; omega, hb2, .inr ⟨⟨_, _, rfl⟩, fun n e hn => by rw [e, atoi_dec n hn] at h; cases h⟩⟩
/-! ### the map of forms, gone through -/
theorem formEs_at {e : MapEntry} (h : e ∈ formEs.toList) : ∃ k : Int, isKind k = true ∧ e = ⟨.int .i64 k, .agg #[.string ⟨(kname k).toArray⟩, .int .i64 (arity k)], (k - 1).toNat⟩ := by
  simp only [formEs, List.mem_cons, List.not_mem_nil, or_false] at h
  rcases h with rfl | rfl | rfl | rfl | rfl | rfl | rfl | rfl | rfl
  · exact ⟨1, by decide, rfl⟩
  · exact ⟨2, by decide, rfl⟩
  · exact ⟨3, by decide, rfl⟩
  · exact ⟨4, by decide, rfl⟩
  · exact ⟨5, by decide, rfl⟩
  · exact ⟨6, by decide, rfl⟩
  · exact ⟨7, by decide, rfl⟩
  · exact ⟨8, by decide, rfl⟩
  · exact ⟨9, by decide, rfl⟩
theorem formEs_has {k : Int} (h : isKind k = true) : ∃ e ∈ formEs.toList, e.key = .int .i64 k := by
  simp only [isKind, decide_eq_true_eq] at h
  have : k = 1 ∨ k = 2 ∨ k = 3 ∨ k = 4 ∨ k = 5 ∨ k = 6 ∨ k = 7 ∨ k = 8 ∨ k = 9 := by omega
  rcases this with rfl | rfl | rfl | rfl | rfl | rfl | rfl | rfl | rfl <;> simp [formEs]
theorem formEs_born : ∀ x ∈ formEs.toList, x.born < 9 := by decide
theorem formEs_nodup : (formEs.toList.map (·.born)).Nodup := by decide
/-- The kind that the loop over the forms has found behind some of them. -/
def Got (nm : Bs) (ds : List MapEntry) (k : Int) : Prop := (k = 0 ∧ ∀ k', isKind k' = true → nm = kname k' → ∀ e ∈ ds, e.key ≠ .int .i64 k') ∨ (isKind k = true ∧ nm = kname k)
theorem Got.start (nm : Bs) : Got nm [] 0 := .inl ⟨rfl, fun _ _ _ e h => by cases h⟩
theorem Got.hit {nm : Bs} {ds : List MapEntry} {k k' : Int} (h' : isKind k' = true) (e' : nm = kname k') (e : MapEntry) : Got nm (ds ++ [e]) k' := .inr ⟨h', e'⟩
theorem Got.miss {nm : Bs} {ds : List MapEntry} {k k' : Int} {v : Value} {b : Nat} (h : Got nm ds k) (hk' : isKind k' = true) (hn : nm ≠ kname k') : Got nm (ds ++ [⟨.int .i64 k', v, b⟩]) k := by
  rcases h with ⟨rfl, h⟩ | h
  · refine .inl ⟨rfl, fun k2 h2 e2 e he => ?_⟩
    rcases List.mem_append.1 he with he | he
    · exact h k2 h2 e2 e he
    · rw [List.mem_singleton] at he
      subst he
      intro e3
      simp only [Value.int.injEq, true_and] at e3
      exact hn (e3 ▸ e2)
  · exact .inr h
theorem Got.done {nm : Bs} {ds : List MapEntry} {k : Int} (h : Got nm ds k) (hp : ds.Perm formEs.toList) : k = kOf nm 9 := by
  rcases h with ⟨rfl, h⟩ | ⟨hk, e⟩
  · have key : ∀ j : Nat, j ≤ 9 → kOf nm j = 0 := by
      intro j
      induction j with
      | zero => intro _; rfl
      | succ j ih =>
        intro hj
        rw [kOf, if_neg, ih (by omega)]
        intro e
        have hk : isKind ((j : Int) + 1) = true := by simp only [isKind, decide_eq_true_eq]; omega
        obtain ⟨x, hx, hkx⟩ := formEs_has hk
        exact h _ hk e x (hp.symm.subset hx) hkx
    exact (key 9 (Nat.le_refl _)).symm
  · rw [e, kOf_name hk]
/-- A text from a place: the term that begins there, seen from the text's own head. -/
theorem Want.shift {u : Bs} {cur : Nat} {l : Int} {t : Tm} {x : Bs} : Want (u.drop cur) 0 l t x ↔ Want u cur l t x :=
  ⟨fun h => ⟨h.hf, h.hr, by simpa using h.ht, h.hx, h.hs⟩, fun h => ⟨h.hf, h.hr, by simpa using h.ht, h.hx, h.hs⟩⟩
end Go.Proofs.YtfhpnkmhppfeiaaDoor
