/- learn: what is known of some terms, and of what they come apart to. Its plain part. -/
import Derived.Test.YtfhpnkmhppfeiaaDoorA8
set_option linter.unusedVariables false
namespace Go.Proofs.YtfhpnkmhppfeiaaDoor
theorem nodup_len {α : Type} : ∀ (l l' : List α), l.Nodup → (∀ x ∈ l, x ∈ l') → l.length ≤ l'.length
  | [], _, _, _ => Nat.zero_le _
  | x :: r, l', hn, hs => by
    obtain ⟨s, t, rfl⟩ := List.append_of_mem (hs x (by simp))
    obtain ⟨hx, hr⟩ := List.nodup_cons.1 hn
    have := nodup_len r (s ++ t) hr fun y hy => by
      have := hs y (by simp [hy])
      simp only [List.mem_append, List.mem_cons] at this ⊢
      rcases this with h | rfl | h
      · exact .inl h
      · exact absurd hy hx
      · exact .inr h
    simp at this ⊢; omega
theorem subs_len (t : Tm) : (subs t).length = size t := by
  apply Tm.rec (motive_1 := fun t => (subs t).length = size t) (motive_2 := fun l => (subsL l).length = sizeL l)
  · intro k n args ih; simp only [subs, size, List.length_cons, ih]; omega
  · rfl
  · intro a r i1 i2; simp only [subsL, sizeL, List.length_append, i1, i2]
/-- All that stands below known terms. -/
def univ (L : List Tm) : List Tm := L.flatMap fun t => subs (ord t)
theorem univ_len {L : List Tm} (h : mayL L = true) : (univ L).length ≤ 1000000 := by
  obtain ⟨h1, h2⟩ := mayL_iff.1 h
  have key : ∀ l : List Tm, (∀ t ∈ l, may t = true) → (univ l).length ≤ l.length * 2000 := by
    intro l
    induction l with
    | nil => intro _; simp [univ]
    | cons a r ih =>
      intro hl
      have ha := ((may_iff a).1 (hl a (by simp))).2
      have := ih fun t ht => hl t (by simp [ht])
      simp only [univ, List.flatMap_cons, List.length_append, subs_len, size_ord, List.length_cons] at this ⊢
      omega
  have := key L h2
  omega
/-- Learnt in part. -/
structure Part (L ts : List Tm) : Prop where
  good : ∀ t ∈ ts, good t
  know : ∀ t ∈ ts, Know L t
  nodup : ts.Nodup
theorem Part.nil (L : List Tm) : Part L [] := ⟨fun _ h => by simp at h, fun _ h => by simp at h, List.nodup_nil⟩
theorem Part.len {L ts : List Tm} (h : Part L ts) : ts.length ≤ (univ L).length := nodup_len _ _ h.nodup fun t ht => by
  obtain ⟨u, hu, hs⟩ := (h.know t ht).sub
  exact List.mem_flatMap.2 ⟨u, hu, hs⟩
theorem Part.put {L ts : List Tm} (h : Part L ts) {a : Tm} (hg : Go.Proofs.YtfhpnkmhppfeiaaDoor.good a) (hk : Know L a) : Part L (kput ts a) := by
  unfold kput
  split
  · exact h
  · rename_i hh
    refine ⟨fun t ht => ?_, fun t ht => ?_, ?_⟩
    · rcases List.mem_append.1 ht with ht | ht
      · exact h.good t ht
      · rw [List.mem_singleton] at ht; exact ht ▸ hg
    · rcases List.mem_append.1 ht with ht | ht
      · exact h.know t ht
      · rw [List.mem_singleton] at ht; exact ht ▸ hk
    · refine List.nodup_append.2 ⟨h.nodup, by simp, fun x hx y hy e => ?_⟩
      rw [List.mem_singleton] at hy
      subst hy e
      exact hh ((hasT_iff (fun t ht => (h.good t ht).1) hg.1).2 hx)
theorem kput_old {ts : List Tm} {a t : Tm} (h : t ∈ ts) : t ∈ kput ts a := by unfold kput; split; exact h; exact List.mem_append_left _ h
theorem kput_new {ts : List Tm} (hf : ∀ t ∈ ts, form t = true) {a : Tm} (ha : form a = true) : a ∈ kput ts a := by
  unfold kput
  split
  · rename_i h; exact (hasT_iff hf ha).1 h
  · simp
end Go.Proofs.YtfhpnkmhppfeiaaDoor
