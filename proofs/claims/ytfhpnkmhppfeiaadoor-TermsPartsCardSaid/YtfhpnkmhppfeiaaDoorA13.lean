/- All that is known, as a row; knowledge's can. -/
import Derived.Test.YtfhpnkmhppfeiaaDoorA10
import Derived.Test.YtfhpnkmhppfeiaaDoorA12
set_option linter.unusedVariables false
set_option linter.unusedSimpArgs false
namespace Go.Proofs.YtfhpnkmhppfeiaaDoor
open Go.RowKit Go.Proofs Go.ChangeMaps
theorem perm_lift {α β : Type} {f : α → β} {l l' : List β} (h : l.Perm l') : ∀ ps : List α, l' = ps.map f → ∃ qs : List α, qs.Perm ps ∧ qs.map f = l := by
  induction h with
  | nil => intro ps e; exact ⟨ps, List.Perm.refl _, e.symm⟩
  | cons x _ ih =>
    intro ps e
    cases ps with
    | nil => cases e
    | cons p ps =>
      simp only [List.map_cons, List.cons.injEq] at e
      obtain ⟨qs, h1, h2⟩ := ih ps e.2
      exact ⟨p :: qs, h1.cons p, by simp [h2, e.1]⟩
  | swap x y l =>
    intro ps e
    match ps, e with
    | p :: q :: ps, e =>
      simp only [List.map_cons, List.cons.injEq] at e
      exact ⟨q :: p :: ps, List.Perm.swap _ _ _, by simp [e.1, e.2.1, e.2.2]⟩
  | trans _ _ ih1 ih2 =>
    intro ps e
    obtain ⟨qs, h1, h2⟩ := ih2 ps e
    obtain ⟨rs, h3, h4⟩ := ih1 qs h2.symm
    exact ⟨rs, h3.trans h1, h4⟩
theorem KE.pairs {w : World} {D : Nat → Prop} : ∀ {es : List MapEntry} {ts : List Tm}, KE w D es ts → ∃ ps : List (Value × Tm), es.map (·.val) = ps.map (·.1) ∧ ts = ps.map (·.2) ∧ ∀ p ∈ ps, TR w D p.2 p.1
  | [], [], _ => ⟨[], rfl, rfl, by simp⟩
  | e :: es, t :: ts, ⟨⟨v, bo, h1, h2⟩, h3⟩ => by
    obtain ⟨ps, a, b, c⟩ := KE.pairs h3
    refine ⟨(v, t) :: ps, by simp [h1, a], by simp [b], fun p hp => ?_⟩
    rcases List.mem_cons.1 hp with rfl | hp
    · exact h2
    · exact c p hp
/-- A row of values of terms that a call owns. -/
theorem ts_of_row {w : World} {D : Nat → Prop} {base : Nat} {v : Value} {ss : List Ent} {us : List Tm} (h : w.ownsRow base 25 3 v ss.length (ecs ss)) (hl : ss.length = us.length)
    (hr : ∀ (j : Nat) (x : Ent) (u : Tm), ss[j]? = some x → us[j]? = some u → TR w D u x.1) : TS w (fun k => D k ∨ base ≤ k) us v := by
  have hec : ∀ (ss : List Ent) (j : Nat) (x : Ent) (i : Nat), ss[j]? = some x → i < 3 → (ecs ss)[j * 3 + i]? = (ec x)[i]? := by
    intro ss
    induction ss with
    | nil => intro j x i h; simp at h
    | cons y r ih =>
      intro j x i h hi
      have e : ecs (y :: r) = ec y ++ ecs r := by simp [ecs]
      rw [e]
      cases j with
      | zero =>
        simp only [List.getElem?_cons_zero, Option.some.injEq] at h
        subst h
        rw [List.getElem?_append_left (by rw [ec_len]; omega)]; congr 1; omega
      | succ j =>
        rw [List.getElem?_append_right (by rw [ec_len]; omega), ec_len, show (j + 1) * 3 + i - 3 = j * 3 + i by omega]
        exact ih j x i (by simpa using h) hi
  rcases h.2 with ⟨rfl, hn⟩ | ⟨g, cap, cur, rfl, hb, hh, hc1, hc2, hcur, htake⟩
  · obtain rfl : us = [] := List.length_eq_zero_iff.1 (by omega)
    exact ⟨none, 0, fun _ => .bool false, rfl, Nat.le_refl _, by omega, fun h => by simp at h, fun j a ha => by simp at ha⟩
  · rw [hl] at hc1 ⊢
    refine ⟨some ⟨g, 0, none⟩, cap, fun j => ((ss[j]?).map (·.1)).getD undef, rfl, hc1, hc2, fun _ => ⟨g, 0, rfl, .inr hb, fun j hj => ?_⟩, fun j a ha => ?_⟩
    · obtain ⟨x, hx⟩ : ∃ x, ss[j]? = some x := ⟨_, List.getElem?_eq_getElem (by omega)⟩
      have hcs := fun i hi => hec ss j x i hx hi
      obtain ⟨xv, k, n, A, l, c, rfl⟩ := x
      have f := fun i u (hu : (ecs ss)[i]? = some u) => h.cells (g := g) rfl i u hu
      simp only [addr_add] at f
      refine ⟨.int .i64 k, .int .i64 n, .slice A l c, by simp [hx], ?_, ?_, ?_⟩
      · rw [Nat.zero_add]; exact f _ _ (by have := hcs 0 (by omega); simpa [ec] using this)
      · rw [Nat.zero_add]; exact f _ _ (by have := hcs 1 (by omega); simpa [ec] using this)
      · rw [Nat.zero_add]; exact f _ _ (by have := hcs 2 (by omega); simpa [ec] using this)
    · have hj := (List.getElem?_eq_some_iff.1 ha).1
      obtain ⟨x, hx⟩ : ∃ x, ss[j]? = some x := ⟨_, List.getElem?_eq_getElem (by omega)⟩
      simp only [hx, Option.map_some, Option.getD_some]
      exact (hr j x a hx ha).mono fun k hk _ => .inl hk
set_option maxRecDepth 100000 in
theorem values_any (b : Nat) (w : World) : Calls Tryd.prog 58 #[.map (some b)] w fun e w' => e = .returned (.func (.func 77) #[] #[.pointer (some ⟨w.heap.size, 0, none⟩)]) ∧ w' = w.alloc (.cells #[.map (some b)] 56) := by
  go_enter Tryd.func58, Tryd.ntmps58
  go_wp2
  go_ret
  exact ⟨rfl, rfl⟩
/-- All that is known, in some order. -/
theorem collect_any {D : Nat → Prop} {b Bm : Nat} {ts : List Tm} (w : World) (hk : KM w D b ts) (hl : ts.length ≤ 1000000000) (hm : w.cell? ⟨Bm, 0, none⟩ = some (.map (some b))) :
    Calls Tryd.prog 57 #[.func (.func 77) #[] #[.pointer (some ⟨Bm, 0, none⟩)]] w fun e w' => ∃ v us, e = .returned v ∧ us.Perm ts ∧ TS w' (fun k => D k ∨ w.heap.size ≤ k) us v ∧ Below w.heap.size w w' := by
  obtain ⟨hgood, es, c, hb, hr, hst, hnd⟩ := hk
  obtain ⟨ps, h1, h2, h3⟩ := hr.pairs
  have hsz : es.size = ts.length := by have := congrArg List.length h1; rw [h2]; simpa using this
  have hbl := (Array.getElem?_eq_some_iff.1 hb).1
  have hval : ∀ e ∈ es.toList, ∃ (k n : Int) (A : Option Addr) (l c : Nat), e.val = .agg #[.int .i64 k, .int .i64 n, .slice A l c] := by
    intro e he
    have : e.val ∈ es.toList.map (·.val) := List.mem_map_of_mem he
    rw [h1] at this
    obtain ⟨p, hp, e'⟩ := List.mem_map.1 this
    obtain ⟨A, c, hv⟩ := (h3 p hp).form3
    exact ⟨_, _, A, _, c, by rw [← e', hv]⟩
  have hseq : SeqGives Fence.wide (3 - 1 - 1) Tryd.prog 77 #[.pointer (some ⟨Bm, 0, none⟩)] (fun x : Ent => x.1) (fun xs => (xs.map (·.1)).Perm (es.toList.map (·.val))) es.size w := fun l J W hW hJ hY h0 =>
    values1_in (3 - 1 - 1) (by omega) l Bm b c es J hY W hJ ((hW.cell (World.block_lt_of_cell? w _ hm)).trans hm) ((hW.block b hbl).trans hb) hst hnd hval h0
  refine (callsIn_wide (n := 3)).1 ((collect_in 3 (by omega) 77 _ (enters_of Tryd.func77 (by kernel_rfl) rfl) _ es.size (by omega) w hseq).mono ?_)
  rintro e w' ⟨v, ss, rfl, hS, hrow, hbel⟩
  obtain ⟨qs, hq1, hq2⟩ := perm_lift hS ps h1
  have hlen : ss.length = qs.length := by have := congrArg List.length hq2; simpa using this.symm
  refine ⟨v, qs.map (·.2), rfl, by rw [h2]; exact hq1.map _, ts_of_row hrow (by simpa using hlen) fun j x u hx hu => ?_, hbel⟩
  obtain ⟨q, hq⟩ : ∃ q, qs[j]? = some q := ⟨_, List.getElem?_eq_getElem (by have := (List.getElem?_eq_some_iff.1 hx).1; omega)⟩
  have e1 : x.1 = q.1 := by
    have := congrArg (fun l => l[j]?) hq2
    simp [hx, hq] at this
    exact this.symm
  have e2 : u = q.2 := by
    simp [hq] at hu; exact hu.symm
  rw [e1, e2]
  exact (h3 q (hq1.subset (List.mem_of_getElem? hq))).bel hbel
end Go.Proofs.YtfhpnkmhppfeiaaDoor
