/- The law TermsLooks, walked. -/
import Derived.Test.YtfhpnkmhppfeiaaDoorA25
import Derived.Test.YtfhpnkmhppfeiaaDoorR11
import Derived.Test.YtfhpnkmhppfeiaaDoorR12
import Derived.Test.YtfhpnkmhppfeiaaDoorL0
set_option linter.unusedVariables false
set_option linter.unusedSimpArgs false
namespace Go.Proofs.YtfhpnkmhppfeiaaDoor
open Go.RowKit Go.Proofs
theorem eqT_self (t : Tm) : eqT t t = true := (eqT_iff t t).2 rfl
theorem TR.zero (w : World) : TR w Any (.mk 0 0 []) (.agg #[.int .i64 0, .int .i64 0, .slice none 0 0]) :=
  TR.of (by unfold i64; omega) (by unfold i64; omega) ⟨none, 0, fun _ => undef, rfl, Nat.le_refl 0, by omega, fun h => absurd h (by simp), fun j a h => by simp at h⟩
/-- The two readings of one text. -/
theorem of_both {w w1 w2 w3 : World} {s : Bs} {v v' : Value} {x : Int} {b : Bool} (h1 : OfT w s (.returned (.tuple #[v, .int .i64 x])) w1) (h2 : OfR w2 s (.returned (.tuple #[v', .bool b])) w3) :
    ∃ t, TR w1 Any t v ∧ TR w3 Any t v' ∧ ((x = 0 ∧ b = true) ∨ (x = 4 ∧ b = false)) := by
  obtain ⟨k, n, A, len, c, y, e, _, h1⟩ := h1
  obtain ⟨k', n', A', len', c', b', e', _, h2⟩ := h2
  simp only [Ending.returned.injEq, Value.tuple.injEq, Array.mk.injEq, List.cons.injEq, Value.int.injEq, Value.bool.injEq, and_true, true_and] at e e'
  obtain ⟨rfl, rfl⟩ := e
  obtain ⟨rfl, rfl⟩ := e'
  rcases h1 with ⟨rfl, t, hT, hm, ht⟩ | ⟨rfl, rfl, rfl, rfl, rfl, rfl, hno⟩
  · rcases h2 with ⟨rfl, t', hT', hm', ht'⟩ | ⟨_, _, _, _, _, _, hno⟩
    · obtain rfl : t' = t := txt_inj ((may_iff _).1 hm').1 ((may_iff _).1 hm).1 (ht'.trans ht.symm)
      exact ⟨t', hT.any, hT'.any, .inl ⟨rfl, rfl⟩⟩
    · exact absurd ht (hno t hT.rng hm)
  · rcases h2 with ⟨rfl, t', hT', hm', ht'⟩ | ⟨rfl, rfl, rfl, rfl, rfl, rfl, _⟩
    · exact absurd ht' (hno t' hT'.rng hm')
    · exact ⟨_, TR.zero w1, TR.zero w3, .inr ⟨rfl, rfl⟩⟩
theorem same_ord {a b : Tm} (ha : may a = true) (hb : may b = true) : sameS a b = eqT (ord a) (ord b) := by
  rw [Bool.eq_iff_iff, eqT_iff]
  unfold sameS
  rw [ha, hb]
  simp only [Bool.true_and, decide_eq_true_eq]
  exact ⟨fun h => txt_inj (by rw [form_ord]; exact ((may_iff a).1 ha).1) (by rw [form_ord]; exact ((may_iff b).1 hb).1) h, fun h => by rw [h]⟩
set_option maxRecDepth 100000 in
set_option maxHeartbeats 8000000 in
theorem looks_law (a b : Tm) (s : Bs) (va vb : Value) (w : World) (hA : TR w Any a va) (hB : TR w Any b vb) (hTab : Tab w) (hE : Errs w) :
    Calls Tryd.prog 10 #[va, vb, .string ⟨s.toArray⟩] w fun e w' => e = .returned (.bool true) ∧ Below w.heap.size w w' := by
  obtain ⟨Aa, ca, rfl⟩ := hA.form3
  obtain ⟨Ab, cb, rfl⟩ := hB.form3
  have HA := Lib.hid hA
  have HB := Lib.hid hB
  have HTab := Lib.hid hTab
  have HErr := Lib.hid hE
  have z := bs_size s
  clear hA hB hTab hE
  have C12 : Hid (∀ w1, Below w.heap.size w w1 → Calls Tryd.prog 12 #[] w1 fun e w' => e = .returned (.bool true) ∧ Below w1.heap.size w1 w') := fun w1 hb => known_any w1 (HTab.out.bel hb)
  have C14a : Hid (∀ w1, Below w.heap.size w w1 → Calls Tryd.prog 14 #[.agg #[.int .i64 a.k, .int .i64 a.n, .slice Aa a.args.length ca], .int .i64 301] w1 fun e w' => e = .returned (.int .i64 (sizeM a 301 : Nat)) ∧ Below w1.heap.size w1 w') := fun w1 hb => Size_any _ a _ 301 w1 (Nat.le_refl _) (by omega) (HA.out.bel hb)
  have C14b : Hid (∀ w1, Below w.heap.size w w1 → Calls Tryd.prog 14 #[.agg #[.int .i64 b.k, .int .i64 b.n, .slice Ab b.args.length cb], .int .i64 301] w1 fun e w' => e = .returned (.int .i64 (sizeM b 301 : Nat)) ∧ Below w1.heap.size w1 w') := fun w1 hb => Size_any _ b _ 301 w1 (Nat.le_refl _) (by omega) (HB.out.bel hb)
  obtain ⟨W2, hW2⟩ : ∃ W2 : World, W2 = (w.alloc (.cells #[.int .i64 a.k, .int .i64 a.n, .slice Aa a.args.length ca] 25)).alloc (.cells #[.int .i64 b.k, .int .i64 b.n, .slice Ab b.args.length cb] 25) := ⟨_, rfl⟩
  have HX := Lib.hid (show FW w #[.int .i64 a.k, .int .i64 a.n, .slice Aa a.args.length ca] #[.int .i64 b.k, .int .i64 b.n, .slice Ab b.args.length cb] W2 from by rw [hW2]; exact FW.start _ _ _)
  have HW2 := Lib.hid hW2
  clear hW2
  have r0 := (blk_cell HX.out.hx 0).trans rfl; have r1 := (blk_cell HX.out.hx 1).trans rfl; have r2 := (blk_cell HX.out.hx 2).trans rfl; have s0 := (blk_cell HX.out.hy 0).trans rfl; have s1 := (blk_cell HX.out.hy 1).trans rfl; have s2 := (blk_cell HX.out.hy 2).trans rfl

  by_cases h1 : 300 < size a
  · have e2 : ((sizeM a 301 : Nat) : Int) > 300 := by unfold sizeM; omega
    go_enter Tryd.func10, Tryd.ntmps10
    go_upto_region 1 with fail
    rw [← HW2.out]
    go_wp2_with (first
      | (go_at_call 14; with_reducible refine (C14a.out _ HX.out.hb).mono ?_; rintro e w1 ⟨rfl, hb⟩; have HX := Lib.hid (HX.out.bel hb); clear hb r0 r1 r2 s0 s1 s2; have r0 := (blk_cell HX.out.hx 0).trans rfl; have r1 := (blk_cell HX.out.hx 1).trans rfl; have r2 := (blk_cell HX.out.hx 2).trans rfl; have s0 := (blk_cell HX.out.hy 0).trans rfl; have s1 := (blk_cell HX.out.hy 1).trans rfl; have s2 := (blk_cell HX.out.hy 2).trans rfl)
      | (go_at_call 12; with_reducible refine (C12.out _ HX.out.hb).mono ?_; rintro e w1 ⟨rfl, hb⟩; have HX := Lib.hid (HX.out.bel hb); clear hb r0 r1 r2 s0 s1 s2; have r0 := (blk_cell HX.out.hx 0).trans rfl; have r1 := (blk_cell HX.out.hx 1).trans rfl; have r2 := (blk_cell HX.out.hx 2).trans rfl; have s0 := (blk_cell HX.out.hy 0).trans rfl; have s1 := (blk_cell HX.out.hy 1).trans rfl; have s2 := (blk_cell HX.out.hy 2).trans rfl))
    go_ret
    exact ⟨rfl, HX.out.hb⟩
  have e2 : ((sizeM a 301 : Nat) : Int) ≤ 300 := by unfold sizeM; omega
  by_cases h2 : 300 < size b
  · have e3 : ((sizeM b 301 : Nat) : Int) > 300 := by unfold sizeM; omega
    go_enter Tryd.func10, Tryd.ntmps10
    go_upto_region 1 with fail
    rw [← HW2.out]
    go_wp2_with (first
      | (go_at_call 14; (first | (with_reducible refine (C14a.out _ HX.out.hb).mono ?_) | (with_reducible refine (C14b.out _ HX.out.hb).mono ?_)); rintro e w1 ⟨rfl, hb⟩; have HX := Lib.hid (HX.out.bel hb); clear hb r0 r1 r2 s0 s1 s2; have r0 := (blk_cell HX.out.hx 0).trans rfl; have r1 := (blk_cell HX.out.hx 1).trans rfl; have r2 := (blk_cell HX.out.hx 2).trans rfl; have s0 := (blk_cell HX.out.hy 0).trans rfl; have s1 := (blk_cell HX.out.hy 1).trans rfl; have s2 := (blk_cell HX.out.hy 2).trans rfl)
      | (go_at_call 12; with_reducible refine (C12.out _ HX.out.hb).mono ?_; rintro e w1 ⟨rfl, hb⟩; have HX := Lib.hid (HX.out.bel hb); clear hb r0 r1 r2 s0 s1 s2; have r0 := (blk_cell HX.out.hx 0).trans rfl; have r1 := (blk_cell HX.out.hx 1).trans rfl; have r2 := (blk_cell HX.out.hx 2).trans rfl; have s0 := (blk_cell HX.out.hy 0).trans rfl; have s1 := (blk_cell HX.out.hy 1).trans rfl; have s2 := (blk_cell HX.out.hy 2).trans rfl))
    go_ret
    exact ⟨rfl, HX.out.hb⟩
  have e3 : ((sizeM b 301 : Nat) : Int) ≤ 300 := by unfold sizeM; omega
  by_cases h3 : 3000 < s.length
  · have e4 : ((s.length : Nat) : Int) > 3000 := by omega
    go_enter Tryd.func10, Tryd.ntmps10
    go_upto_region 1 with fail
    rw [← HW2.out]
    go_wp2_with (first
      | (go_at_call 14; (first | (with_reducible refine (C14a.out _ HX.out.hb).mono ?_) | (with_reducible refine (C14b.out _ HX.out.hb).mono ?_)); rintro e w1 ⟨rfl, hb⟩; have HX := Lib.hid (HX.out.bel hb); clear hb r0 r1 r2 s0 s1 s2; have r0 := (blk_cell HX.out.hx 0).trans rfl; have r1 := (blk_cell HX.out.hx 1).trans rfl; have r2 := (blk_cell HX.out.hx 2).trans rfl; have s0 := (blk_cell HX.out.hy 0).trans rfl; have s1 := (blk_cell HX.out.hy 1).trans rfl; have s2 := (blk_cell HX.out.hy 2).trans rfl)
      | (go_at_call 12; with_reducible refine (C12.out _ HX.out.hb).mono ?_; rintro e w1 ⟨rfl, hb⟩; have HX := Lib.hid (HX.out.bel hb); clear hb r0 r1 r2 s0 s1 s2; have r0 := (blk_cell HX.out.hx 0).trans rfl; have r1 := (blk_cell HX.out.hx 1).trans rfl; have r2 := (blk_cell HX.out.hx 2).trans rfl; have s0 := (blk_cell HX.out.hy 0).trans rfl; have s1 := (blk_cell HX.out.hy 1).trans rfl; have s2 := (blk_cell HX.out.hy 2).trans rfl))
    go_ret
    exact ⟨rfl, HX.out.hb⟩
  have e4 : ((s.length : Nat) : Int) ≤ 3000 := by omega
  have C31 : Hid (∀ w1, Below w.heap.size w w1 → Calls Tryd.prog 31 #[.agg #[.int .i64 a.k, .int .i64 a.n, .slice Aa a.args.length ca]] w1 fun e w' => e = .returned (.tuple #[.string ⟨(if may a = true then txt a else []).toArray⟩, .int .i64 (if may a = true then 0 else 2)]) ∧ Below w1.heap.size w1 w') := fun w1 hb => Text_any a _ w1 (HA.out.bel hb) (HTab.out.bel hb)
  have COf : Hid (∀ w1, Below w.heap.size w w1 → Calls Tryd.prog 32 #[.string ⟨s.toArray⟩] w1 (OfT w1 s)) := fun w1 hb => tOf_any s (by omega) w1 (HTab.out.bel hb) (HErr.out.bel hb)
  have CRf : Hid (∀ w1, Below w.heap.size w w1 → Calls Tryd.prog 33 #[.string ⟨s.toArray⟩] w1 (OfR w1 s)) := fun w1 hb => Of_any s (by omega) w1 (HTab.out.bel hb)
  have C16a : Hid (∀ w1, Below w.heap.size w w1 → Calls Tryd.prog 16 #[.agg #[.int .i64 a.k, .int .i64 a.n, .slice Aa a.args.length ca]] w1 fun e w' => e = .returned (.bool (may a)) ∧ Below w1.heap.size w1 w') := fun w1 hb => rMay_any a _ w1 (HA.out.bel hb)
  have C16b : Hid (∀ w1, Below w.heap.size w w1 → Calls Tryd.prog 16 #[.agg #[.int .i64 b.k, .int .i64 b.n, .slice Ab b.args.length cb]] w1 fun e w' => e = .returned (.bool (may b)) ∧ Below w1.heap.size w1 w') := fun w1 hb => rMay_any b _ w1 (HB.out.bel hb)
  have C30a : Hid (∀ w1, Below w.heap.size w w1 → Calls Tryd.prog 30 #[.agg #[.int .i64 a.k, .int .i64 a.n, .slice Aa a.args.length ca]] w1 fun e w' => e = .returned (.bool (may a)) ∧ Below w1.heap.size w1 w') := fun w1 hb => may_any a _ w1 (HA.out.bel hb)
  have C34 : Hid (∀ w1, Below w.heap.size w w1 → Calls Tryd.prog 34 #[.agg #[.int .i64 a.k, .int .i64 a.n, .slice Aa a.args.length ca], .agg #[.int .i64 b.k, .int .i64 b.n, .slice Ab b.args.length cb]] w1 fun e w' => e = .returned (.bool (sameS a b)) ∧ Below w1.heap.size w1 w') := fun w1 hb => Same_any a b _ _ w1 (HA.out.bel hb) (HB.out.bel hb) (HTab.out.bel hb)
  go_enter Tryd.func10, Tryd.ntmps10
  go_upto_region 1 with fail
  rw [← HW2.out]
  go_upto_region 4 with (first
    | (go_at_call 14; (first | (with_reducible refine (C14a.out _ HX.out.hb).mono ?_) | (with_reducible refine (C14b.out _ HX.out.hb).mono ?_)); rintro e w1 ⟨rfl, hb⟩; have HX := Lib.hid (HX.out.bel hb); clear hb r0 r1 r2 s0 s1 s2; have r0 := (blk_cell HX.out.hx 0).trans rfl; have r1 := (blk_cell HX.out.hx 1).trans rfl; have r2 := (blk_cell HX.out.hx 2).trans rfl; have s0 := (blk_cell HX.out.hy 0).trans rfl; have s1 := (blk_cell HX.out.hy 1).trans rfl; have s2 := (blk_cell HX.out.hy 2).trans rfl)
    | (go_at_call 31; with_reducible refine (C31.out _ HX.out.hb).mono ?_; rintro e w1 ⟨rfl, hb⟩; have HX := Lib.hid (HX.out.bel hb); clear hb r0 r1 r2 s0 s1 s2; have r0 := (blk_cell HX.out.hx 0).trans rfl; have r1 := (blk_cell HX.out.hx 1).trans rfl; have r2 := (blk_cell HX.out.hx 2).trans rfl; have s0 := (blk_cell HX.out.hy 0).trans rfl; have s1 := (blk_cell HX.out.hy 1).trans rfl; have s2 := (blk_cell HX.out.hy 2).trans rfl))
  generalize hxe : (if may a = true then txt a else []) = xa
  generalize hee : (if may a = true then (0 : Int) else 2) = ea
  go_upto_region 5 with fail
  have HXE := Lib.hid hxe
  have HEE := Lib.hid hee
  clear hxe hee
  with_reducible refine (COf.out _ HX.out.hb).mono ?_
  intro e w3 hof
  obtain ⟨k, n, A, len, c, x, rfl, hb, hof2⟩ := id hof
  have HOF := Lib.hid hof; clear hof hof2; have HX := Lib.hid (HX.out.bel hb); clear hb r0 r1 r2 s0 s1 s2; have r0 := (blk_cell HX.out.hx 0).trans rfl; have r1 := (blk_cell HX.out.hx 1).trans rfl; have r2 := (blk_cell HX.out.hx 2).trans rfl; have s0 := (blk_cell HX.out.hy 0).trans rfl; have s1 := (blk_cell HX.out.hy 1).trans rfl; have s2 := (blk_cell HX.out.hy 2).trans rfl
  go_upto_region 5 with fail
  obtain ⟨W3, hW3⟩ : ∃ W3 : World, W3 = w3.alloc (.cells #[.int .i64 k, .int .i64 n, .slice A len c] 25) := ⟨_, rfl⟩
  have HBX : Hid (W3.heap[w3.heap.size]? = some (.cells #[.int .i64 k, .int .i64 n, .slice A len c] 25 (0, 0))) := by rw [hW3]; exact heap_alloc_new _ _
  have HB3 : Hid (Below w3.heap.size w3 W3) := by rw [hW3]; exact bself _ _
  have HX := Lib.hid (HX.out.bel HB3.out)
  rw [← hW3]
  clear hW3 r0 r1 r2 s0 s1 s2
  have r0 := (blk_cell HX.out.hx 0).trans rfl; have r1 := (blk_cell HX.out.hx 1).trans rfl; have r2 := (blk_cell HX.out.hx 2).trans rfl; have s0 := (blk_cell HX.out.hy 0).trans rfl; have s1 := (blk_cell HX.out.hy 1).trans rfl; have s2 := (blk_cell HX.out.hy 2).trans rfl
  go_upto_region 6 with fail
  with_reducible refine (CRf.out _ HX.out.hb).mono ?_
  intro e w4 hof
  obtain ⟨k', n', A', len', c', bb, rfl, hb, hof2⟩ := id hof
  obtain ⟨T, hTy, hTz, hcase⟩ := of_both HOF.out hof
  have HTY := Lib.hid ((hTy.bel HB3.out).bel hb)
  have HBX := Lib.hid ((hb.block _ (Array.getElem?_eq_some_iff.1 HBX.out).1).trans HBX.out)
  clear hof hof2 hTy HOF HB3
  have HX := Lib.hid (HX.out.bel hb); clear hb r0 r1 r2 s0 s1 s2; have r0 := (blk_cell HX.out.hx 0).trans rfl; have r1 := (blk_cell HX.out.hx 1).trans rfl; have r2 := (blk_cell HX.out.hx 2).trans rfl; have s0 := (blk_cell HX.out.hy 0).trans rfl; have s1 := (blk_cell HX.out.hy 1).trans rfl; have s2 := (blk_cell HX.out.hy 2).trans rfl
  go_upto_region 6 with fail
  obtain ⟨W5, hW5⟩ : ∃ W5 : World, W5 = w4.alloc (.cells #[.int .i64 k', .int .i64 n', .slice A' len' c'] 25) := ⟨_, rfl⟩
  have HBZ : Hid (W5.heap[w4.heap.size]? = some (.cells #[.int .i64 k', .int .i64 n', .slice A' len' c'] 25 (0, 0))) := by rw [hW5]; exact heap_alloc_new _ _
  have HB5 : Hid (Below w4.heap.size w4 W5) := by rw [hW5]; exact bself _ _
  have HX := Lib.hid (HX.out.bel HB5.out)
  have HBX := Lib.hid ((HB5.out.block _ (Array.getElem?_eq_some_iff.1 HBX.out).1).trans HBX.out)
  have HTY := Lib.hid (HTY.out.bel HB5.out)
  have HTZ := Lib.hid (hTz.bel HB5.out)
  have HCASE := Lib.hid hcase
  rw [← hW5]
  clear hW5 r0 r1 r2 s0 s1 s2 hTz hcase HB5
  have l0 : ∀ x : Later W5.heap.size W5, x.w.cell? ⟨w.heap.size, 0, none⟩ = some (.int .i64 a.k) := fun x => x.cell ((blk_cell HX.out.hx 0).trans rfl) (Array.getElem?_eq_some_iff.1 HX.out.hx).1
  have l1 : ∀ x : Later W5.heap.size W5, x.w.cell? ⟨w.heap.size, 1, none⟩ = some (.int .i64 a.n) := fun x => x.cell ((blk_cell HX.out.hx 1).trans rfl) (Array.getElem?_eq_some_iff.1 HX.out.hx).1
  have l2 : ∀ x : Later W5.heap.size W5, x.w.cell? ⟨w.heap.size, 2, none⟩ = some (.slice Aa a.args.length ca) := fun x => x.cell ((blk_cell HX.out.hx 2).trans rfl) (Array.getElem?_eq_some_iff.1 HX.out.hx).1
  have m0 : ∀ x : Later W5.heap.size W5, x.w.cell? ⟨w3.heap.size, 0, none⟩ = some (.int .i64 k) := fun x => x.cell ((blk_cell HBX.out 0).trans rfl) (Array.getElem?_eq_some_iff.1 HBX.out).1
  have m1 : ∀ x : Later W5.heap.size W5, x.w.cell? ⟨w3.heap.size, 1, none⟩ = some (.int .i64 n) := fun x => x.cell ((blk_cell HBX.out 1).trans rfl) (Array.getElem?_eq_some_iff.1 HBX.out).1
  have m2 : ∀ x : Later W5.heap.size W5, x.w.cell? ⟨w3.heap.size, 2, none⟩ = some (.slice A len c) := fun x => x.cell ((blk_cell HBX.out 2).trans rfl) (Array.getElem?_eq_some_iff.1 HBX.out).1
  have q0 : ∀ x : Later W5.heap.size W5, x.w.cell? ⟨w4.heap.size, 0, none⟩ = some (.int .i64 k') := fun x => x.cell ((blk_cell HBZ.out 0).trans rfl) (Array.getElem?_eq_some_iff.1 HBZ.out).1
  have q1 : ∀ x : Later W5.heap.size W5, x.w.cell? ⟨w4.heap.size, 1, none⟩ = some (.int .i64 n') := fun x => x.cell ((blk_cell HBZ.out 1).trans rfl) (Array.getElem?_eq_some_iff.1 HBZ.out).1
  have q2 : ∀ x : Later W5.heap.size W5, x.w.cell? ⟨w4.heap.size, 2, none⟩ = some (.slice A' len' c') := fun x => x.cell ((blk_cell HBZ.out 2).trans rfl) (Array.getElem?_eq_some_iff.1 HBZ.out).1
  have Q30 : Hid (∀ x : Later W5.heap.size W5, Calls Tryd.prog 30 #[.agg #[.int .i64 a.k, .int .i64 a.n, .slice Aa a.args.length ca]] x.w fun e w' => e = .returned (.bool (may a)) ∧ Below x.w.heap.size x.w w') := fun x => C30a.out _ (bthen HX.out.hb x.2)
  have Q16 : Hid (∀ x : Later W5.heap.size W5, Calls Tryd.prog 16 #[.agg #[.int .i64 a.k, .int .i64 a.n, .slice Aa a.args.length ca]] x.w fun e w' => e = .returned (.bool (may a)) ∧ Below x.w.heap.size x.w w') := fun x => C16a.out _ (bthen HX.out.hb x.2)
  have Q21 : Hid (∀ x : Later W5.heap.size W5, Calls Tryd.prog 21 #[.agg #[.int .i64 k, .int .i64 n, .slice A len c], .agg #[.int .i64 k', .int .i64 n', .slice A' len' c']] x.w fun e w' => e = .returned (.bool true) ∧ Below x.w.heap.size x.w w') := fun x => by
    have := Equal_any _ T T _ _ x.w (Nat.le_refl _) (HTY.out.bel x.2) (HTZ.out.bel x.2)
    rw [eqT_self] at this
    exact this
  have Q25 : Hid (∀ y : Later W5.heap.size W5, Calls Tryd.prog 25 #[.int .i64 x] y.w fun e w' => e = .returned (.int .i64 x) ∧ Below y.w.heap.size y.w w') := fun y => (num_any _ _).mono fun e w' h => by obtain ⟨rfl, rfl⟩ := h; exact ⟨rfl, Below.refl _ _⟩
  obtain ⟨ma, hma⟩ : ∃ m, m = may a := ⟨_, rfl⟩
  rw [← hma] at Q30 Q16
  have hmm : (ma != ma) = false := by simp
  go_cut [69] from 43 to 68 (fun m w' => m = .bool false ∧ Hid (FW w #[.int .i64 a.k, .int .i64 a.n, .slice Aa a.args.length ca] #[.int .i64 b.k, .int .i64 b.n, .slice Ab b.args.length cb] w'))
  case first =>
    clear HXE HEE C31 COf CRf C34 C16a C16b C30a
    rcases HCASE.out with ⟨rfl, rfl⟩ | ⟨rfl, rfl⟩
    · go_wp2_with fail
      refine wp_region_later W5.heap.size (by kernel_rfl) ?_
      repeat (first | go_big_quiet_step ((first | (go_at_call 30; exact later_call (Q30.out _) (Nat.le_refl _)) | (go_at_call 16; exact later_call (Q16.out _) (Nat.le_refl _)) | (go_at_call 21; exact later_call (Q21.out _) (Nat.le_refl _)) | (go_at_call 25; exact later_call (Q25.out _) (Nat.le_refl _)))) | quiet_step ((first | (go_at_call 30; exact later_call (Q30.out _) (Nat.le_refl _)) | (go_at_call 16; exact later_call (Q16.out _) (Nat.le_refl _)) | (go_at_call 21; exact later_call (Q21.out _) (Nat.le_refl _)) | (go_at_call 25; exact later_call (Q25.out _) (Nat.le_refl _)))))
      refine wpQuiet_nil (later_all ?_)
      intro wx hx
      have HXX := Lib.hid (HX.out.bel hx)
      clear hx l0 l1 l2 m0 m1 m2 q0 q1 q2
      go_wp2_with fail
      go_meet
      case rel => exact ⟨rfl, HXX⟩
    · go_wp2_with fail
      refine wp_region_later W5.heap.size (by kernel_rfl) ?_
      repeat (first | go_big_quiet_step ((first | (go_at_call 30; exact later_call (Q30.out _) (Nat.le_refl _)) | (go_at_call 16; exact later_call (Q16.out _) (Nat.le_refl _)) | (go_at_call 21; exact later_call (Q21.out _) (Nat.le_refl _)) | (go_at_call 25; exact later_call (Q25.out _) (Nat.le_refl _)))) | quiet_step ((first | (go_at_call 30; exact later_call (Q30.out _) (Nat.le_refl _)) | (go_at_call 16; exact later_call (Q16.out _) (Nat.le_refl _)) | (go_at_call 21; exact later_call (Q21.out _) (Nat.le_refl _)) | (go_at_call 25; exact later_call (Q25.out _) (Nat.le_refl _)))))
      refine wpQuiet_nil (later_all ?_)
      intro wx hx
      have HXX := Lib.hid (HX.out.bel hx)
      clear hx l0 l1 l2 m0 m1 m2 q0 q1 q2
      go_wp2_with fail
      go_meet
      case rel => exact ⟨rfl, HXX⟩
  case rest =>
    obtain ⟨rfl, HX⟩ := hcut
    clear l0 l1 l2 m0 m1 m2 q0 q1 q2 Q30 Q16 Q21 Q25 hmm
    have r0 := (blk_cell HX.out.hx 0).trans rfl; have r1 := (blk_cell HX.out.hx 1).trans rfl; have r2 := (blk_cell HX.out.hx 2).trans rfl; have s0 := (blk_cell HX.out.hy 0).trans rfl; have s1 := (blk_cell HX.out.hy 1).trans rfl; have s2 := (blk_cell HX.out.hy 2).trans rfl

    cases ma with
    | false =>
      have ha : may a = false := hma.symm
      have hxa := HXE.out
      have hea := HEE.out
      rw [ha, if_neg (by simp)] at hxa hea
      subst hxa
      subst hea
      rw [ha] at C16a
      have hsm : sameS a b = false := by unfold sameS; rw [ha]; rfl
      rw [hsm] at C34
      have hom : ordM a = a := by unfold ordM; rw [ha, if_neg (by simp)]
      have C35 : Hid (∀ w1, Below w.heap.size w w1 → Calls Tryd.prog 35 #[.agg #[.int .i64 a.k, .int .i64 a.n, .slice Aa a.args.length ca]] w1 fun e w' => ∃ v', e = .returned v' ∧ TR w' Any a v' ∧ Below w1.heap.size w1 w') := fun w1 hb => by
        have := Order_any a _ w1 (HA.out.bel hb) (HTab.out.bel hb)
        rw [show (if may a = true then ord a else a) = a from hom] at this
        exact this
      clear HXE HEE hsm hom ha hma
      go_upto_region 9 with (first
        | (go_at_call 16; (first | (with_reducible refine (C16a.out _ HX.out.hb).mono ?_) | (with_reducible refine (C16b.out _ HX.out.hb).mono ?_)); rintro e w1 ⟨rfl, hb⟩; have HX := Lib.hid (HX.out.bel hb); clear hb r0 r1 r2 s0 s1 s2; have r0 := (blk_cell HX.out.hx 0).trans rfl; have r1 := (blk_cell HX.out.hx 1).trans rfl; have r2 := (blk_cell HX.out.hx 2).trans rfl; have s0 := (blk_cell HX.out.hy 0).trans rfl; have s1 := (blk_cell HX.out.hy 1).trans rfl; have s2 := (blk_cell HX.out.hy 2).trans rfl))
      have HXY := HX
      go_cut [87] from 76 to 86 (fun m w' => m = .bool false ∧ Hid (FW w #[.int .i64 a.k, .int .i64 a.n, .slice Aa a.args.length ca] #[.int .i64 b.k, .int .i64 b.n, .slice Ab b.args.length cb] w'))
      case first =>
        clear r0 r1 r2 s0 s1 s2
        have l0 : ∀ x : Later w1.heap.size w1, x.w.cell? ⟨w.heap.size, 0, none⟩ = some (.int .i64 a.k) := fun x => x.cell ((blk_cell HX.out.hx 0).trans rfl) (Array.getElem?_eq_some_iff.1 HX.out.hx).1
        have l1 : ∀ x : Later w1.heap.size w1, x.w.cell? ⟨w.heap.size, 1, none⟩ = some (.int .i64 a.n) := fun x => x.cell ((blk_cell HX.out.hx 1).trans rfl) (Array.getElem?_eq_some_iff.1 HX.out.hx).1
        have l2 : ∀ x : Later w1.heap.size w1, x.w.cell? ⟨w.heap.size, 2, none⟩ = some (.slice Aa a.args.length ca) := fun x => x.cell ((blk_cell HX.out.hx 2).trans rfl) (Array.getElem?_eq_some_iff.1 HX.out.hx).1
        have p0 : ∀ x : Later w1.heap.size w1, x.w.cell? ⟨w.heap.size + 1, 0, none⟩ = some (.int .i64 b.k) := fun x => x.cell ((blk_cell HX.out.hy 0).trans rfl) (Array.getElem?_eq_some_iff.1 HX.out.hy).1
        have p1 : ∀ x : Later w1.heap.size w1, x.w.cell? ⟨w.heap.size + 1, 1, none⟩ = some (.int .i64 b.n) := fun x => x.cell ((blk_cell HX.out.hy 1).trans rfl) (Array.getElem?_eq_some_iff.1 HX.out.hy).1
        have p2 : ∀ x : Later w1.heap.size w1, x.w.cell? ⟨w.heap.size + 1, 2, none⟩ = some (.slice Ab b.args.length cb) := fun x => x.cell ((blk_cell HX.out.hy 2).trans rfl) (Array.getElem?_eq_some_iff.1 HX.out.hy).1
        have Q34 : Hid (∀ x : Later w1.heap.size w1, Calls Tryd.prog 34 #[.agg #[.int .i64 a.k, .int .i64 a.n, .slice Aa a.args.length ca], .agg #[.int .i64 b.k, .int .i64 b.n, .slice Ab b.args.length cb]] x.w fun e w' => e = .returned (.bool false) ∧ Below x.w.heap.size x.w w') := fun x => C34.out _ (bthen HX.out.hb x.2)
        go_wp2_with fail
        refine wp_region_later w1.heap.size (by kernel_rfl) ?_
        repeat (first | go_big_quiet_step ((go_at_call 34; exact later_call (Q34.out _) (Nat.le_refl _))) | quiet_step ((go_at_call 34; exact later_call (Q34.out _) (Nat.le_refl _))))
        refine wpQuiet_nil (later_all ?_)
        intro wx hx
        have HXX := Lib.hid (HX.out.bel hx)
        clear hx l0 l1 l2 p0 p1 p2
        go_wp2_with fail
        go_meet
        case rel => exact ⟨rfl, HXX⟩
      case rest =>
        obtain ⟨rfl, HX⟩ := hcut
        clear r0 r1 r2 s0 s1 s2
        have r0 := (blk_cell HX.out.hx 0).trans rfl; have r1 := (blk_cell HX.out.hx 1).trans rfl; have r2 := (blk_cell HX.out.hx 2).trans rfl; have s0 := (blk_cell HX.out.hy 0).trans rfl; have s1 := (blk_cell HX.out.hy 1).trans rfl; have s2 := (blk_cell HX.out.hy 2).trans rfl
        go_upto_region 12 with (first
          | (go_at_call 16; with_reducible refine (C16a.out _ HX.out.hb).mono ?_; rintro e w1 ⟨rfl, hb⟩; have HX := Lib.hid (HX.out.bel hb); clear hb r0 r1 r2 s0 s1 s2; have r0 := (blk_cell HX.out.hx 0).trans rfl; have r1 := (blk_cell HX.out.hx 1).trans rfl; have r2 := (blk_cell HX.out.hx 2).trans rfl; have s0 := (blk_cell HX.out.hy 0).trans rfl; have s1 := (blk_cell HX.out.hy 1).trans rfl; have s2 := (blk_cell HX.out.hy 2).trans rfl))
        go_wp2_with fail
        refine wp_region_post 16 (R := fun _ => Grew None_) (B := fun _ _ => True) (C := Grew (None_) w1)
          [fun v _ => v = .string ⟨([] : Bs).toArray⟩,
            fun v _ => v = .bool true,
            fun v _ => v = .bool true,
            fun v _ => v = .int .i64 2,
            fun v _ => v = .int .i64 2,
            fun v _ => v = .bool true,
            fun v _ => v = .bool true,
            fun v _ => v = .bool true,
            fun v _ => v = .agg #[.int .i64 a.k, .int .i64 a.n, .slice Aa a.args.length ca],
            fun v w' => TR w' Any (a) v,
            fun v _ => v = .agg #[.int .i64 a.k, .int .i64 a.n, .slice Aa a.args.length ca],
            fun v _ => v = .bool true,
            fun v _ => v = .bool true,
            fun v _ => v = .bool true,
            fun v _ => v = .bool true,
            fun v _ => v = .bool true]
          [[], [0], [1], [2], [2, 3], [2, 4], [2, 5], [6], [7], [7, 8], [7], [7, 9, 10], [7, 11], [12], [13], [13, 14]] (by kernel_rfl) (by kernel_rfl) (by kernel_rfl) (fun _ _ _ _ h h' => h.trans h') ?_ (fun _ _ _ _ _ _ _ _ _ _ _ => trivial) (Grew.drew _ _) (fun _ _ => trivial) ?_ ?_
        · intro i j v w1 w2 _ _ _ hg
          refine lasts ?_ j v
          simp only [List.forall_mem_cons, List.not_mem_nil, false_implies, implies_true, and_true]
          refine ⟨fun _ h => h, fun _ h => h, fun _ h => h, fun _ h => h, fun _ h => h, fun _ h => h, fun _ h => h, fun _ h => h, fun _ h => h, fun _ h => h.grew hg fun _ _ h => h.elim, fun _ h => h, fun _ h => h, fun _ h => h, fun _ h => h, fun _ h => h, fun _ h => h⟩
        · intro vals
          simp only [List.take_succ_cons, List.take_zero, Steps_, List.headD_cons, List.tail_cons, List.forall_mem_cons, List.not_mem_nil, false_implies, implies_true, and_true, List.getD_cons_zero, List.getD_cons_succ, Act.put, List.setIfInBounds_toArray, List.set_cons_zero, List.set_cons_succ, Nat.zero_add, Nat.reduceAdd]
          refine ⟨?_, ?_, ?_, ?_, ?_, ?_, ?_, ?_, ?_, ?_, ?_, ?_, ?_, ?_, ?_, ?_⟩
          · rintro w1 hC _ _
            go_wp2_with fail
            exact ⟨_, rfl, Grew.refl _ _, rfl⟩
          · rintro w1 hC _ h0
            rw [h0]
            go_wp2_with fail
            exact ⟨_, rfl, Grew.refl _ _, rfl⟩
          · rintro w1 hC _ h1
            rw [h1]
            go_wp2_with fail
            exact ⟨_, rfl, Grew.refl _ _, rfl⟩
          · rintro w1 hC _ h2
            rw [h2]
            go_wp2_with fail
            exact ⟨_, rfl, Grew.refl _ _, rfl⟩
          · rintro w1 hC _ ⟨h2, h3⟩
            rw [h2, h3]
            go_wp2_with (go_at_call 25; refine (num_any _ _).mono ?_; rintro e w2 ⟨rfl, rfl⟩)
            exact ⟨_, rfl, Grew.refl _ _, rfl⟩
          · rintro w1 hC _ ⟨h2, h4⟩
            rw [h2, h4]
            go_wp2_with fail
            exact ⟨_, rfl, Grew.refl _ _, rfl⟩
          · rintro w1 hC _ ⟨h2, h5⟩
            rw [h2, h5]
            go_wp2_with fail
            exact ⟨_, rfl, Grew.refl _ _, rfl⟩
          · rintro w1 hC _ h6
            rw [h6]
            go_wp2_with fail
            exact ⟨_, rfl, Grew.refl _ _, rfl⟩
          · rintro w1 hC _ h7
            obtain ⟨q0, q1, q2, _, _, _⟩ := cell3_load (hC.heap HX.out.hx fun h => h.elim)
            rw [h7]
            go_wp2_with fail
            exact ⟨_, rfl, Grew.refl _ _, rfl⟩
          · rintro w1 hC _ ⟨h7, h8⟩
            rw [h7, h8]
            have HCC := Lib.hid hC.all
            go_wp2_with (go_at_call 35; refine (C35.out _ (bthen HX.out.hb HCC.out)).mono ?_; rintro e w2 ⟨v2, rfl, hT2, hb2⟩)
            exact ⟨_, rfl, Grew.of_below hb2, hT2⟩
          · rintro w1 hC _ h7
            obtain ⟨q0, q1, q2, _, _, _⟩ := cell3_load (hC.heap HX.out.hx fun h => h.elim)
            rw [h7]
            go_wp2_with fail
            exact ⟨_, rfl, Grew.refl _ _, rfl⟩
          · rintro w1 hC _ ⟨h7, h9, h10⟩
            obtain ⟨A1, c1, e1⟩ := h9.form3
            rw [e1] at h9 ⊢
            have heq := Equal_any _ (a) (a) _ _ w1 (Nat.le_refl _) h9 ((HA.out.bel HX.out.hb).bel hC.all)
            rw [eqT_self] at heq
            clear h9
            rw [h7, h10]
            go_wp2_with (go_at_call 21; refine heq.mono ?_; rintro e w2 ⟨rfl, hb2⟩)
            exact ⟨_, rfl, Grew.of_below hb2, rfl⟩
          · rintro w1 hC _ ⟨h7, h11⟩
            rw [h7, h11]
            go_wp2_with fail
            exact ⟨_, rfl, Grew.refl _ _, rfl⟩
          · rintro w1 hC _ h12
            rw [h12]
            go_wp2_with fail
            exact ⟨_, rfl, Grew.refl _ _, rfl⟩
          · rintro w1 hC _ h13
            rw [h13]
            have HCC := Lib.hid hC.all
            go_wp2_with (go_at_call 12; refine (C12.out _ (bthen HX.out.hb HCC.out)).mono ?_; rintro e w2 ⟨rfl, hb2⟩)
            exact ⟨_, rfl, Grew.of_below hb2, rfl⟩
          · rintro w1 hC _ ⟨h13, h14⟩
            rw [h13, h14]
            go_wp2_with fail
            exact ⟨_, rfl, Grew.refl _ _, rfl⟩
        · intro vals w1 hC hv
          have x0 : vals 0 = .string ⟨([] : Bs).toArray⟩ := hv 0 (by omega)
          have x1 : vals 1 = .bool true := hv 1 (by omega)
          have x2 : vals 2 = .bool true := hv 2 (by omega)
          have x3 : vals 3 = .int .i64 2 := hv 3 (by omega)
          have x4 : vals 4 = .int .i64 2 := hv 4 (by omega)
          have x5 : vals 5 = .bool true := hv 5 (by omega)
          have x6 : vals 6 = .bool true := hv 6 (by omega)
          have x7 : vals 7 = .bool true := hv 7 (by omega)
          have x8 : vals 8 = .agg #[.int .i64 a.k, .int .i64 a.n, .slice Aa a.args.length ca] := hv 8 (by omega)
          have x10 : vals 10 = .agg #[.int .i64 a.k, .int .i64 a.n, .slice Aa a.args.length ca] := hv 10 (by omega)
          have x11 : vals 11 = .bool true := hv 11 (by omega)
          have x12 : vals 12 = .bool true := hv 12 (by omega)
          have x13 : vals 13 = .bool true := hv 13 (by omega)
          have x14 : vals 14 = .bool true := hv 14 (by omega)
          have x15 : vals 15 = .bool true := hv 15 (by omega)
          simp only [List.take_succ_cons, List.take_zero, List.drop_succ_cons, List.drop_zero, List.drop_nil, lexA, Act.put, List.setIfInBounds_toArray, List.set_cons_zero, List.set_cons_succ, Nat.zero_add, Nat.reduceAdd, x0, x1, x2, x3, x4, x5, x6, x7, x8, x10, x11, x12, x13, x14, x15]
          clear x0 x1 x2 x3 x4 x5 x6 x7 x8 x10 x11 x12 x13 x14 x15 hv
          have HX := Lib.hid (HX.out.bel hC.all)
          generalize vals 9 = z9
          go_wp2_with fail
          go_ret
          exact ⟨rfl, HX.out.hb⟩
    | true =>
      have ha : may a = true := hma.symm
      have hxa := HXE.out
      have hea := HEE.out
      rw [if_pos ha] at hxa hea
      subst hxa
      subst hea
      rw [ha] at C16a
      have HMA := Lib.hid ((may_iff a).1 ha)
      have hom : ordM a = ord a := by unfold ordM; rw [if_pos ha]
      have C35 : Hid (∀ w1, Below w.heap.size w w1 → Calls Tryd.prog 35 #[.agg #[.int .i64 a.k, .int .i64 a.n, .slice Aa a.args.length ca]] w1 fun e w' => ∃ v', e = .returned v' ∧ TR w' Any (ord a) v' ∧ Below w1.heap.size w1 w') := fun w1 hb => by
        have := Order_any a _ w1 (HA.out.bel hb) (HTab.out.bel hb)
        rw [show (if may a = true then ord a else a) = ord a from hom] at this
        exact this
      have C18a : Hid (∀ w1, Below w.heap.size w w1 → Calls Tryd.prog 18 #[.agg #[.int .i64 a.k, .int .i64 a.n, .slice Aa a.args.length ca]] w1 fun e w' => ∃ v', e = .returned v' ∧ TR w' (fun b => w1.heap.size ≤ b) (ord a) v' ∧ Below w1.heap.size w1 w') := fun w1 hb => rOrder_any _ a _ w1 (Nat.le_refl _) HMA.out.1 HMA.out.2 (HA.out.bel hb) (HTab.out.bel hb)
      have C28 : Hid (∀ w1, Below w.heap.size w w1 → Calls Tryd.prog 28 #[.agg #[.int .i64 a.k, .int .i64 a.n, .slice Aa a.args.length ca]] w1 fun e w' => e = .returned (.string ⟨(txt a).toArray⟩) ∧ Below w1.heap.size w1 w') := fun w1 hb => rText_any _ a _ w1 (Nat.le_refl _) HMA.out.1 HMA.out.2 (HA.out.bel hb) (HTab.out.bel hb)
      have HSM : Hid (may b = false → sameS a b = false) := fun hb => by unfold sameS; rw [hb]; simp
      have HSO : Hid (may b = true → sameS a b = eqT (ord a) (ord b)) := fun hb => same_ord ha hb
      have HMB : Hid (may b = true → form b = true ∧ size b ≤ 2000) := fun h => (may_iff b).1 h
      obtain ⟨mb, hmb⟩ : ∃ m, m = may b := ⟨_, rfl⟩
      rw [← hmb] at C16b HSM HSO HMB
      clear HXE HEE hom ha hma hmb
      go_upto_region 9 with (first
        | (go_at_call 16; (first | (with_reducible refine (C16a.out _ HX.out.hb).mono ?_) | (with_reducible refine (C16b.out _ HX.out.hb).mono ?_)); rintro e w1 ⟨rfl, hb⟩; have HX := Lib.hid (HX.out.bel hb); clear hb r0 r1 r2 s0 s1 s2; have r0 := (blk_cell HX.out.hx 0).trans rfl; have r1 := (blk_cell HX.out.hx 1).trans rfl; have r2 := (blk_cell HX.out.hx 2).trans rfl; have s0 := (blk_cell HX.out.hy 0).trans rfl; have s1 := (blk_cell HX.out.hy 1).trans rfl; have s2 := (blk_cell HX.out.hy 2).trans rfl))
      go_cut [87] from 76 to 86 (fun m w' => m = .bool false ∧ Hid (FW w #[.int .i64 a.k, .int .i64 a.n, .slice Aa a.args.length ca] #[.int .i64 b.k, .int .i64 b.n, .slice Ab b.args.length cb] w'))
      case first =>
        cases mb with
        | false =>
          rw [HSM.out rfl] at C34
          clear r0 r1 r2 s0 s1 s2
          have l0 : ∀ x : Later w1.heap.size w1, x.w.cell? ⟨w.heap.size, 0, none⟩ = some (.int .i64 a.k) := fun x => x.cell ((blk_cell HX.out.hx 0).trans rfl) (Array.getElem?_eq_some_iff.1 HX.out.hx).1
          have l1 : ∀ x : Later w1.heap.size w1, x.w.cell? ⟨w.heap.size, 1, none⟩ = some (.int .i64 a.n) := fun x => x.cell ((blk_cell HX.out.hx 1).trans rfl) (Array.getElem?_eq_some_iff.1 HX.out.hx).1
          have l2 : ∀ x : Later w1.heap.size w1, x.w.cell? ⟨w.heap.size, 2, none⟩ = some (.slice Aa a.args.length ca) := fun x => x.cell ((blk_cell HX.out.hx 2).trans rfl) (Array.getElem?_eq_some_iff.1 HX.out.hx).1
          have p0 : ∀ x : Later w1.heap.size w1, x.w.cell? ⟨w.heap.size + 1, 0, none⟩ = some (.int .i64 b.k) := fun x => x.cell ((blk_cell HX.out.hy 0).trans rfl) (Array.getElem?_eq_some_iff.1 HX.out.hy).1
          have p1 : ∀ x : Later w1.heap.size w1, x.w.cell? ⟨w.heap.size + 1, 1, none⟩ = some (.int .i64 b.n) := fun x => x.cell ((blk_cell HX.out.hy 1).trans rfl) (Array.getElem?_eq_some_iff.1 HX.out.hy).1
          have p2 : ∀ x : Later w1.heap.size w1, x.w.cell? ⟨w.heap.size + 1, 2, none⟩ = some (.slice Ab b.args.length cb) := fun x => x.cell ((blk_cell HX.out.hy 2).trans rfl) (Array.getElem?_eq_some_iff.1 HX.out.hy).1
          have Q34 : Hid (∀ x : Later w1.heap.size w1, Calls Tryd.prog 34 #[.agg #[.int .i64 a.k, .int .i64 a.n, .slice Aa a.args.length ca], .agg #[.int .i64 b.k, .int .i64 b.n, .slice Ab b.args.length cb]] x.w fun e w' => e = .returned (.bool false) ∧ Below x.w.heap.size x.w w') := fun x => C34.out _ (bthen HX.out.hb x.2)
          go_wp2_with fail
          refine wp_region_later w1.heap.size (by kernel_rfl) ?_
          repeat (first | go_big_quiet_step ((go_at_call 34; exact later_call (Q34.out _) (Nat.le_refl _))) | quiet_step ((go_at_call 34; exact later_call (Q34.out _) (Nat.le_refl _))))
          refine wpQuiet_nil (later_all ?_)
          intro wx hx
          have HXX := Lib.hid (HX.out.bel hx)
          clear hx l0 l1 l2 p0 p1 p2
          go_wp2_with fail
          go_meet
          case rel => exact ⟨rfl, HXX⟩
        | true =>
          rw [HSO.out rfl] at C34
          have HMB2 := Lib.hid (HMB.out rfl)
          have C18b : Hid (∀ w1, Below w.heap.size w w1 → Calls Tryd.prog 18 #[.agg #[.int .i64 b.k, .int .i64 b.n, .slice Ab b.args.length cb]] w1 fun e w' => ∃ v', e = .returned v' ∧ TR w' (fun b => w1.heap.size ≤ b) (ord b) v' ∧ Below w1.heap.size w1 w') := fun w1 hb => rOrder_any _ b _ w1 (Nat.le_refl _) HMB2.out.1 HMB2.out.2 (HB.out.bel hb) (HTab.out.bel hb)
          obtain ⟨d, hd⟩ : ∃ d, d = eqT (ord a) (ord b) := ⟨_, rfl⟩
          rw [← hd] at C34
          have HD := Lib.hid hd
          clear hd
          have hdd : (d != d) = false := by simp
          go_wp2_with fail
          refine wp_region_post 12 (R := fun _ => Grew None_) (B := fun _ _ => True) (C := Grew (None_) w1)
            [fun v _ => v = .agg #[.int .i64 a.k, .int .i64 a.n, .slice Aa a.args.length ca],
              fun v _ => v = .agg #[.int .i64 b.k, .int .i64 b.n, .slice Ab b.args.length cb],
              fun v _ => v = .bool d,
              fun v _ => v = .bool true,
              fun v _ => v = .bool true,
              fun v _ => v = .agg #[.int .i64 a.k, .int .i64 a.n, .slice Aa a.args.length ca],
              fun v w' => TR w' Any (ord a) v,
              fun v _ => v = .agg #[.int .i64 b.k, .int .i64 b.n, .slice Ab b.args.length cb],
              fun v w' => TR w' Any (ord b) v,
              fun v _ => v = .bool d,
              fun v _ => v = .bool d,
              fun v _ => v = .bool false]
            [[], [], [0, 1], [], [3], [4], [4, 5], [4], [4, 7], [4, 6, 8], [4, 9], [2, 10]] (by kernel_rfl) (by kernel_rfl) (by kernel_rfl) (fun _ _ _ _ h h' => h.trans h') ?_ (fun _ _ _ _ _ _ _ _ _ _ _ => trivial) (Grew.drew _ _) (fun _ _ => trivial) ?_ ?_
          · intro i j v w1 w2 _ _ _ hg
            refine lasts ?_ j v
            simp only [List.forall_mem_cons, List.not_mem_nil, false_implies, implies_true, and_true]
            refine ⟨fun _ h => h, fun _ h => h, fun _ h => h, fun _ h => h, fun _ h => h, fun _ h => h, fun _ h => h.grew hg fun _ _ h => h.elim, fun _ h => h, fun _ h => h.grew hg fun _ _ h => h.elim, fun _ h => h, fun _ h => h, fun _ h => h⟩
          · intro vals
            simp only [List.take_succ_cons, List.take_zero, Steps_, List.headD_cons, List.tail_cons, List.forall_mem_cons, List.not_mem_nil, false_implies, implies_true, and_true, List.getD_cons_zero, List.getD_cons_succ, Act.put, List.setIfInBounds_toArray, List.set_cons_zero, List.set_cons_succ, Nat.zero_add, Nat.reduceAdd]
            refine ⟨?_, ?_, ?_, ?_, ?_, ?_, ?_, ?_, ?_, ?_, ?_, ?_⟩
            · rintro w1 hC _ _
              obtain ⟨q0, q1, q2, _, _, _⟩ := cell3_load (hC.heap HX.out.hx fun h => h.elim)
              go_wp2_with fail
              exact ⟨_, rfl, Grew.refl _ _, rfl⟩
            · rintro w1 hC _ _
              obtain ⟨q0, q1, q2, _, _, _⟩ := cell3_load (hC.heap HX.out.hy fun h => h.elim)
              go_wp2_with fail
              exact ⟨_, rfl, Grew.refl _ _, rfl⟩
            · rintro w1 hC _ ⟨h0, h1⟩
              rw [h0, h1]
              have HCC := Lib.hid hC.all
              go_wp2_with (go_at_call 34; refine (C34.out _ (bthen HX.out.hb HCC.out)).mono ?_; rintro e w2 ⟨rfl, hb2⟩)
              exact ⟨_, rfl, Grew.of_below hb2, rfl⟩
            · rintro w1 hC _ _
              go_wp2_with fail
              exact ⟨_, rfl, Grew.refl _ _, rfl⟩
            · rintro w1 hC _ h3
              rw [h3]
              go_wp2_with fail
              exact ⟨_, rfl, Grew.refl _ _, rfl⟩
            · rintro w1 hC _ h4
              obtain ⟨q0, q1, q2, _, _, _⟩ := cell3_load (hC.heap HX.out.hx fun h => h.elim)
              rw [h4]
              go_wp2_with fail
              exact ⟨_, rfl, Grew.refl _ _, rfl⟩
            · rintro w1 hC _ ⟨h4, h5⟩
              rw [h4, h5]
              have HCC := Lib.hid hC.all
              go_wp2_with (go_at_call 18; refine (C18a.out _ (bthen HX.out.hb HCC.out)).mono ?_; rintro e w2 ⟨v2, rfl, hT2, hb2⟩)
              exact ⟨_, rfl, Grew.of_below hb2, hT2.any⟩
            · rintro w1 hC _ h4
              obtain ⟨q0, q1, q2, _, _, _⟩ := cell3_load (hC.heap HX.out.hy fun h => h.elim)
              rw [h4]
              go_wp2_with fail
              exact ⟨_, rfl, Grew.refl _ _, rfl⟩
            · rintro w1 hC _ ⟨h4, h7⟩
              rw [h4, h7]
              have HCC := Lib.hid hC.all
              go_wp2_with (go_at_call 18; refine (C18b.out _ (bthen HX.out.hb HCC.out)).mono ?_; rintro e w2 ⟨v2, rfl, hT2, hb2⟩)
              exact ⟨_, rfl, Grew.of_below hb2, hT2.any⟩
            · rintro w1 hC _ ⟨h4, h6, h8⟩
              obtain ⟨A1, c1, e1⟩ := h6.form3
              rw [e1] at h6 ⊢
              obtain ⟨A2, c2, e2⟩ := h8.form3
              rw [e2] at h8 ⊢
              have heq := Equal_any _ (ord a) (ord b) _ _ w1 (Nat.le_refl _) h6 h8
              rw [← HD.out] at heq
              clear h6 h8
              rw [h4]
              go_wp2_with (go_at_call 21; refine heq.mono ?_; rintro e w2 ⟨rfl, hb2⟩)
              exact ⟨_, rfl, Grew.of_below hb2, rfl⟩
            · rintro w1 hC _ ⟨h4, h9⟩
              rw [h4, h9]
              go_wp2_with fail
              exact ⟨_, rfl, Grew.refl _ _, rfl⟩
            · rintro w1 hC _ ⟨h2, h10⟩
              rw [h2, h10]
              go_wp2_with fail
              exact ⟨_, rfl, Grew.refl _ _, rfl⟩
          · intro vals w1 hC hv
            have x0 : vals 0 = .agg #[.int .i64 a.k, .int .i64 a.n, .slice Aa a.args.length ca] := hv 0 (by omega)
            have x1 : vals 1 = .agg #[.int .i64 b.k, .int .i64 b.n, .slice Ab b.args.length cb] := hv 1 (by omega)
            have x2 : vals 2 = .bool d := hv 2 (by omega)
            have x3 : vals 3 = .bool true := hv 3 (by omega)
            have x4 : vals 4 = .bool true := hv 4 (by omega)
            have x5 : vals 5 = .agg #[.int .i64 a.k, .int .i64 a.n, .slice Aa a.args.length ca] := hv 5 (by omega)
            have x7 : vals 7 = .agg #[.int .i64 b.k, .int .i64 b.n, .slice Ab b.args.length cb] := hv 7 (by omega)
            have x9 : vals 9 = .bool d := hv 9 (by omega)
            have x10 : vals 10 = .bool d := hv 10 (by omega)
            have x11 : vals 11 = .bool false := hv 11 (by omega)
            simp only [List.take_succ_cons, List.take_zero, List.drop_succ_cons, List.drop_zero, List.drop_nil, lexA, Act.put, List.setIfInBounds_toArray, List.set_cons_zero, List.set_cons_succ, Nat.zero_add, Nat.reduceAdd, x0, x1, x2, x3, x4, x5, x7, x9, x10, x11]
            clear x0 x1 x2 x3 x4 x5 x7 x9 x10 x11 hv
            have HX := Lib.hid (HX.out.bel hC.all)
            generalize vals 6 = z6
            generalize vals 8 = z8
            go_wp2_with fail
            go_meet
            case rel => exact ⟨rfl, HX⟩
      case rest =>
        obtain ⟨rfl, HX⟩ := hcut
        clear r0 r1 r2 s0 s1 s2
        have r0 := (blk_cell HX.out.hx 0).trans rfl; have r1 := (blk_cell HX.out.hx 1).trans rfl; have r2 := (blk_cell HX.out.hx 2).trans rfl; have s0 := (blk_cell HX.out.hy 0).trans rfl; have s1 := (blk_cell HX.out.hy 1).trans rfl; have s2 := (blk_cell HX.out.hy 2).trans rfl
        go_upto_region 13 with (first
          | (go_at_call 16; with_reducible refine (C16a.out _ HX.out.hb).mono ?_; rintro e w1 ⟨rfl, hb⟩; have HX := Lib.hid (HX.out.bel hb); clear hb r0 r1 r2 s0 s1 s2; have r0 := (blk_cell HX.out.hx 0).trans rfl; have r1 := (blk_cell HX.out.hx 1).trans rfl; have r2 := (blk_cell HX.out.hx 2).trans rfl; have s0 := (blk_cell HX.out.hy 0).trans rfl; have s1 := (blk_cell HX.out.hy 1).trans rfl; have s2 := (blk_cell HX.out.hy 2).trans rfl))
        go_wp2_with fail
        refine wp_region_post 19 (R := fun _ => Grew None_) (B := fun _ _ => True) (C := Grew (None_) w1)
          [fun v _ => v = .string ⟨(txt a).toArray⟩,
            fun v _ => v = .agg #[.int .i64 a.k, .int .i64 a.n, .slice Aa a.args.length ca],
            fun v _ => v = .string ⟨(txt a).toArray⟩,
            fun v _ => v = .bool true,
            fun v _ => v = .bool true,
            fun v _ => v = .int .i64 0,
            fun v _ => v = .int .i64 0,
            fun v _ => v = .bool true,
            fun v _ => v = .bool true,
            fun v _ => v = .bool true,
            fun v _ => v = .agg #[.int .i64 a.k, .int .i64 a.n, .slice Aa a.args.length ca],
            fun v w' => TR w' Any (ord a) v,
            fun v _ => v = .agg #[.int .i64 a.k, .int .i64 a.n, .slice Aa a.args.length ca],
            fun v w' => TR w' Any (ord a) v,
            fun v _ => v = .bool true,
            fun v _ => v = .bool true,
            fun v _ => v = .bool true,
            fun v _ => v = .bool true,
            fun v _ => v = .bool true]
          [[], [], [1], [0, 2], [3], [4], [4, 5], [4, 6], [4, 7], [8], [9], [9, 10], [9], [9, 12], [9, 11, 13], [9, 14], [15], [16], [16, 17]] (by kernel_rfl) (by kernel_rfl) (by kernel_rfl) (fun _ _ _ _ h h' => h.trans h') ?_ (fun _ _ _ _ _ _ _ _ _ _ _ => trivial) (Grew.drew _ _) (fun _ _ => trivial) ?_ ?_
        · intro i j v w1 w2 _ _ _ hg
          refine lasts ?_ j v
          simp only [List.forall_mem_cons, List.not_mem_nil, false_implies, implies_true, and_true]
          refine ⟨fun _ h => h, fun _ h => h, fun _ h => h, fun _ h => h, fun _ h => h, fun _ h => h, fun _ h => h, fun _ h => h, fun _ h => h, fun _ h => h, fun _ h => h, fun _ h => h.grew hg fun _ _ h => h.elim, fun _ h => h, fun _ h => h.grew hg fun _ _ h => h.elim, fun _ h => h, fun _ h => h, fun _ h => h, fun _ h => h, fun _ h => h⟩
        · intro vals
          simp only [List.take_succ_cons, List.take_zero, Steps_, List.headD_cons, List.tail_cons, List.forall_mem_cons, List.not_mem_nil, false_implies, implies_true, and_true, List.getD_cons_zero, List.getD_cons_succ, Act.put, List.setIfInBounds_toArray, List.set_cons_zero, List.set_cons_succ, Nat.zero_add, Nat.reduceAdd]
          refine ⟨?_, ?_, ?_, ?_, ?_, ?_, ?_, ?_, ?_, ?_, ?_, ?_, ?_, ?_, ?_, ?_, ?_, ?_, ?_⟩
          · rintro w1 hC _ _
            go_wp2_with fail
            exact ⟨_, rfl, Grew.refl _ _, rfl⟩
          · rintro w1 hC _ _
            obtain ⟨q0, q1, q2, _, _, _⟩ := cell3_load (hC.heap HX.out.hx fun h => h.elim)
            go_wp2_with fail
            exact ⟨_, rfl, Grew.refl _ _, rfl⟩
          · rintro w1 hC _ h1
            rw [h1]
            have HCC := Lib.hid hC.all
            go_wp2_with (go_at_call 28; refine (C28.out _ (bthen HX.out.hb HCC.out)).mono ?_; rintro e w2 ⟨rfl, hb2⟩)
            exact ⟨_, rfl, Grew.of_below hb2, rfl⟩
          · rintro w1 hC _ ⟨h0, h2⟩
            rw [h0, h2]
            go_wp2_with fail
            exact ⟨_, rfl, Grew.refl _ _, rfl⟩
          · rintro w1 hC _ h3
            rw [h3]
            go_wp2_with fail
            exact ⟨_, rfl, Grew.refl _ _, rfl⟩
          · rintro w1 hC _ h4
            rw [h4]
            go_wp2_with fail
            exact ⟨_, rfl, Grew.refl _ _, rfl⟩
          · rintro w1 hC _ ⟨h4, h5⟩
            rw [h4, h5]
            go_wp2_with (go_at_call 25; refine (num_any _ _).mono ?_; rintro e w2 ⟨rfl, rfl⟩)
            exact ⟨_, rfl, Grew.refl _ _, rfl⟩
          · rintro w1 hC _ ⟨h4, h6⟩
            rw [h4, h6]
            go_wp2_with fail
            exact ⟨_, rfl, Grew.refl _ _, rfl⟩
          · rintro w1 hC _ ⟨h4, h7⟩
            rw [h4, h7]
            go_wp2_with fail
            exact ⟨_, rfl, Grew.refl _ _, rfl⟩
          · rintro w1 hC _ h8
            rw [h8]
            go_wp2_with fail
            exact ⟨_, rfl, Grew.refl _ _, rfl⟩
          · rintro w1 hC _ h9
            obtain ⟨q0, q1, q2, _, _, _⟩ := cell3_load (hC.heap HX.out.hx fun h => h.elim)
            rw [h9]
            go_wp2_with fail
            exact ⟨_, rfl, Grew.refl _ _, rfl⟩
          · rintro w1 hC _ ⟨h9, h10⟩
            rw [h9, h10]
            have HCC := Lib.hid hC.all
            go_wp2_with (go_at_call 35; refine (C35.out _ (bthen HX.out.hb HCC.out)).mono ?_; rintro e w2 ⟨v2, rfl, hT2, hb2⟩)
            exact ⟨_, rfl, Grew.of_below hb2, hT2⟩
          · rintro w1 hC _ h9
            obtain ⟨q0, q1, q2, _, _, _⟩ := cell3_load (hC.heap HX.out.hx fun h => h.elim)
            rw [h9]
            go_wp2_with fail
            exact ⟨_, rfl, Grew.refl _ _, rfl⟩
          · rintro w1 hC _ ⟨h9, h12⟩
            rw [h9, h12]
            have HCC := Lib.hid hC.all
            go_wp2_with (go_at_call 18; refine (C18a.out _ (bthen HX.out.hb HCC.out)).mono ?_; rintro e w2 ⟨v2, rfl, hT2, hb2⟩)
            exact ⟨_, rfl, Grew.of_below hb2, hT2.any⟩
          · rintro w1 hC _ ⟨h9, h11, h13⟩
            obtain ⟨A1, c1, e1⟩ := h11.form3
            rw [e1] at h11 ⊢
            obtain ⟨A2, c2, e2⟩ := h13.form3
            rw [e2] at h13 ⊢
            have heq := Equal_any _ (ord a) (ord a) _ _ w1 (Nat.le_refl _) h11 h13
            rw [eqT_self] at heq
            clear h11 h13
            rw [h9]
            go_wp2_with (go_at_call 21; refine heq.mono ?_; rintro e w2 ⟨rfl, hb2⟩)
            exact ⟨_, rfl, Grew.of_below hb2, rfl⟩
          · rintro w1 hC _ ⟨h9, h14⟩
            rw [h9, h14]
            go_wp2_with fail
            exact ⟨_, rfl, Grew.refl _ _, rfl⟩
          · rintro w1 hC _ h15
            rw [h15]
            go_wp2_with fail
            exact ⟨_, rfl, Grew.refl _ _, rfl⟩
          · rintro w1 hC _ h16
            rw [h16]
            have HCC := Lib.hid hC.all
            go_wp2_with (go_at_call 12; refine (C12.out _ (bthen HX.out.hb HCC.out)).mono ?_; rintro e w2 ⟨rfl, hb2⟩)
            exact ⟨_, rfl, Grew.of_below hb2, rfl⟩
          · rintro w1 hC _ ⟨h16, h17⟩
            rw [h16, h17]
            go_wp2_with fail
            exact ⟨_, rfl, Grew.refl _ _, rfl⟩
        · intro vals w1 hC hv
          have x0 : vals 0 = .string ⟨(txt a).toArray⟩ := hv 0 (by omega)
          have x1 : vals 1 = .agg #[.int .i64 a.k, .int .i64 a.n, .slice Aa a.args.length ca] := hv 1 (by omega)
          have x2 : vals 2 = .string ⟨(txt a).toArray⟩ := hv 2 (by omega)
          have x3 : vals 3 = .bool true := hv 3 (by omega)
          have x4 : vals 4 = .bool true := hv 4 (by omega)
          have x5 : vals 5 = .int .i64 0 := hv 5 (by omega)
          have x6 : vals 6 = .int .i64 0 := hv 6 (by omega)
          have x7 : vals 7 = .bool true := hv 7 (by omega)
          have x8 : vals 8 = .bool true := hv 8 (by omega)
          have x9 : vals 9 = .bool true := hv 9 (by omega)
          have x10 : vals 10 = .agg #[.int .i64 a.k, .int .i64 a.n, .slice Aa a.args.length ca] := hv 10 (by omega)
          have x12 : vals 12 = .agg #[.int .i64 a.k, .int .i64 a.n, .slice Aa a.args.length ca] := hv 12 (by omega)
          have x14 : vals 14 = .bool true := hv 14 (by omega)
          have x15 : vals 15 = .bool true := hv 15 (by omega)
          have x16 : vals 16 = .bool true := hv 16 (by omega)
          have x17 : vals 17 = .bool true := hv 17 (by omega)
          have x18 : vals 18 = .bool true := hv 18 (by omega)
          simp only [List.take_succ_cons, List.take_zero, List.drop_succ_cons, List.drop_zero, List.drop_nil, lexA, Act.put, List.setIfInBounds_toArray, List.set_cons_zero, List.set_cons_succ, Nat.zero_add, Nat.reduceAdd, x0, x1, x2, x3, x4, x5, x6, x7, x8, x9, x10, x12, x14, x15, x16, x17, x18]
          clear x0 x1 x2 x3 x4 x5 x6 x7 x8 x9 x10 x12 x14 x15 x16 x17 x18 hv
          have HX := Lib.hid (HX.out.bel hC.all)
          generalize vals 11 = z11
          generalize vals 13 = z13
          go_wp2_with fail
          go_ret
          exact ⟨rfl, HX.out.hb⟩
end Go.Proofs.YtfhpnkmhppfeiaaDoor
