/- Reading a term, in plain Lean: runs of letters, kinds of names, what stands behind a name. -/
import Derived.Test.YtfhpnkmhppfeiaaDoorPlain2
set_option linter.unusedVariables false
namespace Go.Proofs.YtfhpnkmhppfeiaaDoor
/-- Where a run of letters ends. -/
def runL (s : Bs) (at_ : Nat) : Nat := at_ + ((s.drop at_).takeWhile low).length
theorem runL_step {s : Bs} {j : Nat} {c : UInt8} (h : s[j]? = some c) : runL s j = if low c = true then runL s (j + 1) else j := by
  have hl := (List.getElem?_eq_some_iff.1 h).1
  unfold runL
  rw [List.drop_eq_getElem_cons hl]
  have : s[j] = c := by rw [List.getElem?_eq_getElem hl] at h; exact Option.some.inj h
  rw [this]
  by_cases hd : low c = true
  · rw [if_pos hd, List.takeWhile_cons_of_pos hd, List.length_cons]; omega
  · rw [if_neg hd, List.takeWhile_cons_of_neg hd]; rfl
theorem runL_end {s : Bs} : runL s s.length = s.length := by unfold runL; simp
theorem runL_le (s : Bs) {p : Nat} (h : p ≤ s.length) : p ≤ runL s p ∧ runL s p ≤ s.length := by
  unfold runL
  have := (List.takeWhile_sublist low (l := s.drop p)).length_le
  rw [List.length_drop] at this
  omega
theorem takeWhile_cut {p : UInt8 → Bool} {u x : Bs} (hu : ∀ c ∈ u, p c = true) (hx : noHd p x) : (u ++ x).takeWhile p = u := by
  rw [List.takeWhile_append_of_pos hu]
  cases x with
  | nil => simp
  | cons c r => rw [List.takeWhile_cons_of_neg (by rw [hx c rfl]; simp), List.append_nil]
/-- A text from a place, cut into a run of letters and what follows. -/
theorem runL_cut {s u x : Bs} {p : Nat} (h : s.drop p = u ++ x) (hu : ∀ c ∈ u, low c = true) (hx : noHd low x) : runL s p = p + u.length ∧ (s.take (runL s p)).drop p = u ∧ s.drop (runL s p) = x := by
  have e : runL s p = p + u.length := by unfold runL; rw [h, takeWhile_cut hu hx]
  rw [e]
  refine ⟨rfl, ?_, ?_⟩
  · rw [List.drop_take, h, show p + u.length - p = u.length by omega, List.take_left' rfl]
  · rw [← List.drop_drop, h, List.drop_left' rfl]
/-- The kind of a name; 0: none. -/
def kOf (u : Bs) : Nat → Int
  | 0 => 0
  | j + 1 => if u = kname ((j : Int) + 1) then (j : Int) + 1 else kOf u j
theorem kOf_name {k : Int} (hk : isKind k = true) : kOf (kname k) 9 = k := by
  simp only [isKind, decide_eq_true_eq] at hk
  have : k = 1 ∨ k = 2 ∨ k = 3 ∨ k = 4 ∨ k = 5 ∨ k = 6 ∨ k = 7 ∨ k = 8 ∨ k = 9 := by omega
  rcases this with rfl | rfl | rfl | rfl | rfl | rfl | rfl | rfl | rfl <;> decide
theorem kOf_rng (u : Bs) (j : Nat) : 0 ≤ kOf u j ∧ kOf u j ≤ j := by
  induction j with
  | zero => simp [kOf]
  | succ j ih => simp only [kOf]; split <;> omega
/-- What stands behind a name: the Args. -/
def tlL : Bool → List Tm → Bs
  | _, [] => [41]
  | first, a :: r => (if first = true then 40 else 44) :: (txt a ++ tlL false r)
theorem txt_tl {k : Int} {args : List Tm} (hf : form (.mk k 0 args) = true) (hk : 3 ≤ k) : txt (.mk k 0 args) = kname k ++ tlL true args := by
  have hh := headOK_iff.1 (form_head hf).1
  by_cases h : k = 3 ∨ k = 9
  · have := hh.2.1
    rw [ar1 h] at this
    obtain ⟨a, rfl⟩ := List.length_eq_one_iff.1 this
    rw [txt1 h]; simp [tlL]
  · have := hh.2.1
    rw [ar2 (by omega) (by omega)] at this
    match args, this with
    | [a, b], _ => rw [txt2 (by omega) (by omega)]; simp [tlL]
theorem tlL_low (first : Bool) (l : List Tm) (x : Bs) : noHd low (tlL first l ++ x) := by
  cases l with
  | nil => exact noHd_cons (by decide)
  | cons a r => cases first <;> exact noHd_cons (by decide)
theorem tlL_dig (l : List Tm) (x : Bs) : noHd dig (tlL false l ++ x) := by
  cases l with
  | nil => exact noHd_cons (by decide)
  | cons a r => exact noHd_cons (by decide)
end Go.Proofs.YtfhpnkmhppfeiaaDoor
