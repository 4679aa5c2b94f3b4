/- What the laws TermsForms and TermsLooks share: the two terms boxed; a term in order if it may be. -/
import Derived.Test.YtfhpnkmhppfeiaaDoorR12
import Derived.Test.YtfhpnkmhppfeiaaDoorG2
set_option linter.unusedVariables false
set_option linter.unusedSimpArgs false
namespace Go.Proofs.YtfhpnkmhppfeiaaDoor
open Go.RowKit Go.Proofs
/-- The world within the law: the two terms, boxed. -/
structure FW (w : World) (cx cy : Array Value) (wr : World) : Prop where
  hb : Below w.heap.size w wr
  hx : wr.heap[w.heap.size]? = some (.cells cx 25 (0, 0))
  hy : wr.heap[w.heap.size + 1]? = some (.cells cy 25 (0, 0))
theorem FW.bel {w wr w1 : World} {cx cy : Array Value} (h : FW w cx cy wr) (hb : Below wr.heap.size wr w1) : FW w cx cy w1 :=
  ⟨bthen h.hb hb, (hb.block _ (Array.getElem?_eq_some_iff.1 h.hx).1).trans h.hx, (hb.block _ (Array.getElem?_eq_some_iff.1 h.hy).1).trans h.hy⟩
theorem FW.start (w : World) (cx cy : Array Value) : FW w cx cy ((w.alloc (.cells cx 25)).alloc (.cells cy 25)) := by
  refine ⟨balloc (bself w _) _, ?_, ?_⟩
  · rw [Below.heap_alloc _ _ _ (by simp)]; exact heap_alloc_new _ _
  · have := heap_alloc_new (w.alloc (.cells cx 25)) (.cells cy 25); simpa using this
/-- terms.Order's answer. -/
def ordM (t : Tm) : Tm := if may t = true then ord t else t
theorem may_ordM (t : Tm) : may (ordM t) = may t := by
  unfold ordM
  cases h : may t with
  | true =>
    rw [if_pos rfl]
    obtain ⟨h1, h2⟩ := (may_iff t).1 h
    exact (may_iff _).2 ⟨by rw [form_ord]; exact h1, by rw [size_ord]; exact h2⟩
  | false => rw [if_neg (by simp)]; exact h
theorem ordM_ordM (t : Tm) : ordM (ordM t) = ordM t := by
  show (if may (ordM t) = true then ord (ordM t) else ordM t) = ordM t
  rw [may_ordM]
  cases h : may t with
  | true => rw [if_pos rfl]; unfold ordM; rw [if_pos h]; exact ord_ord t
  | false => rw [if_neg (by simp)]
/-- terms.Text's answer at terms.Order's. -/
def xM (t : Tm) : Bs := if may t = true then txt (ord t) else []
def eM (t : Tm) : Int := if may t = true then 0 else 2
theorem eM_02 (t : Tm) : eM t = 0 ∨ eM t = 2 := by unfold eM; split <;> simp
theorem Text_ordM (t : Tm) (v : Value) (w : World) (hT : TR w Any (ordM t) v) (hTab : Tab w) :
    Calls Tryd.prog 31 #[v] w fun e w' => e = .returned (.tuple #[.string ⟨(xM t).toArray⟩, .int .i64 (eM t)]) ∧ Below w.heap.size w w' := by
  have h := Text_any (ordM t) v w hT hTab
  rw [may_ordM] at h
  have e : (if may t = true then txt (ordM t) else []) = xM t := by
    unfold xM ordM
    cases hm : may t <;> simp
  rw [e] at h
  exact h
theorem xM_cases (a b : Tm) : (eM a = 0 ∧ eM b = 0 ∧ (xM a == xM b) = sameS a b) ∨ (eM a + eM b == 0) = false := by
  unfold eM xM sameS
  cases ha : may a <;> cases hb : may b <;> simp
  rw [Bool.eq_iff_iff]; simp
theorem num_any (n : Int) (w : World) : Calls Tryd.prog 25 #[.int .i64 n] w fun e w' => e = .returned (.int .i64 n) ∧ w' = w := by
  go_enter Tryd.func25, Tryd.ntmps25
  go_wp2_with fail
  go_ret
  exact ⟨rfl, rfl⟩
end Go.Proofs.YtfhpnkmhppfeiaaDoor
