/- Alike part by part. -/
import Derived.Test.YtfhpnkmhppfeiaaDoorPlain2
set_option linter.unusedVariables false
namespace Go.Proofs.YtfhpnkmhppfeiaaDoor
mutual
def eqT : Tm → Tm → Bool
  | .mk k n args, .mk k' n' args' => decide (k = k') && decide (n = n') && eqL args args'
def eqL : List Tm → List Tm → Bool
  | [], [] => true
  | a :: r, b :: s => eqT a b && eqL r s
  | _, _ => false
end
theorem eqT_iff : ∀ a b : Tm, eqT a b = true ↔ a = b := by
  intro a
  apply Tm.rec (motive_1 := fun a => ∀ b, eqT a b = true ↔ a = b) (motive_2 := fun l => ∀ l', eqL l l' = true ↔ l = l')
  · rintro k n args ih ⟨k', n', args'⟩
    simp only [eqT, Bool.and_eq_true, decide_eq_true_eq, ih, Tm.mk.injEq, and_assoc]
  · intro l'; cases l' <;> simp [eqL]
  · intro a r iha ihr l'
    cases l' with
    | nil => simp [eqL]
    | cons b s => simp only [eqL, Bool.and_eq_true, iha, ihr, List.cons.injEq]
theorem eqL_len : ∀ {l l' : List Tm}, eqL l l' = true → l.length = l'.length
  | [], [], _ => rfl
  | a :: r, b :: s, h => by simp only [eqL, Bool.and_eq_true] at h; simp [eqL_len h.2]
theorem eqL_drop {l l' : List Tm} {j : Nat} {a b : Tm} (h : l[j]? = some a) (h' : l'[j]? = some b) : eqL (l.drop j) (l'.drop j) = (eqT a b && eqL (l.drop (j + 1)) (l'.drop (j + 1))) := by
  have hl := (List.getElem?_eq_some_iff.1 h)
  have hl' := (List.getElem?_eq_some_iff.1 h')
  rw [List.drop_eq_getElem_cons hl.1, List.drop_eq_getElem_cons hl'.1, hl.2, hl'.2]
  rfl
end Go.Proofs.YtfhpnkmhppfeiaaDoor
