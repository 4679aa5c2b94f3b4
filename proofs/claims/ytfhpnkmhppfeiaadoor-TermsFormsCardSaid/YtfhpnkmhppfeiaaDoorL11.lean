/- The law TermsForms, walked. -/
import Derived.Test.YtfhpnkmhppfeiaaDoorA25
import Derived.Test.YtfhpnkmhppfeiaaDoorR12
import Derived.Test.YtfhpnkmhppfeiaaDoorL0
set_option linter.unusedVariables false
set_option linter.unusedSimpArgs false
namespace Go.Proofs.YtfhpnkmhppfeiaaDoor
open Go.RowKit Go.Proofs
set_option maxRecDepth 100000 in
set_option maxHeartbeats 4000000 in
theorem forms_law (a b : Tm) (s : Bs) (va vb : Value) (w : World) (hA : TR w Any a va) (hB : TR w Any b vb) (hTab : Tab w) (hE : Errs w) :
    Calls Tryd.prog 11 #[va, vb, .string ⟨s.toArray⟩] w fun e w' => e = .returned (.bool true) ∧ Below w.heap.size w w' := by
  obtain ⟨Aa, ca, rfl⟩ := hA.form3
  obtain ⟨Ab, cb, rfl⟩ := hB.form3
  have HA := Lib.hid hA
  have HB := Lib.hid hB
  have HTab := Lib.hid hTab
  have HErr := Lib.hid hE
  have z := bs_size s
  clear hA hB hTab hE
  have C12 : Hid (∀ w1, Below w.heap.size w w1 → Calls Tryd.prog 12 #[] w1 fun e w' => e = .returned (.bool true) ∧ Below w1.heap.size w1 w') := fun w1 hb => known_any w1 (HTab.out.bel hb)
  have C14a : Hid (∀ w1, Below w.heap.size w w1 → Calls Tryd.prog 14 #[.agg #[.int .i64 a.k, .int .i64 a.n, .slice Aa a.args.length ca], .int .i64 301] w1 fun e w' => e = .returned (.int .i64 (sizeM a 301 : Nat)) ∧ Below w1.heap.size w1 w') := fun w1 hb => Size_any _ a _ 301 w1 (Nat.le_refl _) (by omega) (HA.out.bel hb)
  have C14b : Hid (∀ w1, Below w.heap.size w w1 → Calls Tryd.prog 14 #[.agg #[.int .i64 b.k, .int .i64 b.n, .slice Ab b.args.length cb], .int .i64 301] w1 fun e w' => e = .returned (.int .i64 (sizeM b 301 : Nat)) ∧ Below w1.heap.size w1 w') := fun w1 hb => Size_any _ b _ 301 w1 (Nat.le_refl _) (by omega) (HB.out.bel hb)
  obtain ⟨W2, hW2⟩ : ∃ W2 : World, W2 = (w.alloc (.cells #[.int .i64 a.k, .int .i64 a.n, .slice Aa a.args.length ca] 25)).alloc (.cells #[.int .i64 b.k, .int .i64 b.n, .slice Ab b.args.length cb] 25) := ⟨_, rfl⟩
  have HX := Lib.hid (show FW w #[.int .i64 a.k, .int .i64 a.n, .slice Aa a.args.length ca] #[.int .i64 b.k, .int .i64 b.n, .slice Ab b.args.length cb] W2 from by rw [hW2]; exact FW.start _ _ _)
  have HW2 := Lib.hid hW2
  clear hW2
  have r0 := (blk_cell HX.out.hx 0).trans rfl; have r1 := (blk_cell HX.out.hx 1).trans rfl; have r2 := (blk_cell HX.out.hx 2).trans rfl; have s0 := (blk_cell HX.out.hy 0).trans rfl; have s1 := (blk_cell HX.out.hy 1).trans rfl; have s2 := (blk_cell HX.out.hy 2).trans rfl

  by_cases h1 : 300 < size a
  · have e2 : ((sizeM a 301 : Nat) : Int) > 300 := by unfold sizeM; omega
    go_enter Tryd.func11, Tryd.ntmps11
    go_upto_region 1 with fail
    rw [← HW2.out]
    go_wp2_with (first
      | (go_at_call 14; with_reducible refine (C14a.out _ HX.out.hb).mono ?_; rintro e w1 ⟨rfl, hb⟩; have HX := Lib.hid (HX.out.bel hb); clear hb r0 r1 r2 s0 s1 s2; have r0 := (blk_cell HX.out.hx 0).trans rfl; have r1 := (blk_cell HX.out.hx 1).trans rfl; have r2 := (blk_cell HX.out.hx 2).trans rfl; have s0 := (blk_cell HX.out.hy 0).trans rfl; have s1 := (blk_cell HX.out.hy 1).trans rfl; have s2 := (blk_cell HX.out.hy 2).trans rfl)
      | (go_at_call 12; with_reducible refine (C12.out _ HX.out.hb).mono ?_; rintro e w1 ⟨rfl, hb⟩; have HX := Lib.hid (HX.out.bel hb); clear hb r0 r1 r2 s0 s1 s2; have r0 := (blk_cell HX.out.hx 0).trans rfl; have r1 := (blk_cell HX.out.hx 1).trans rfl; have r2 := (blk_cell HX.out.hx 2).trans rfl; have s0 := (blk_cell HX.out.hy 0).trans rfl; have s1 := (blk_cell HX.out.hy 1).trans rfl; have s2 := (blk_cell HX.out.hy 2).trans rfl))
    go_ret
    exact ⟨rfl, HX.out.hb⟩
  have e2 : ((sizeM a 301 : Nat) : Int) ≤ 300 := by unfold sizeM; omega
  by_cases h2 : 300 < size b
  · have e3 : ((sizeM b 301 : Nat) : Int) > 300 := by unfold sizeM; omega
    go_enter Tryd.func11, Tryd.ntmps11
    go_upto_region 1 with fail
    rw [← HW2.out]
    go_wp2_with (first
      | (go_at_call 14; (first | (with_reducible refine (C14a.out _ HX.out.hb).mono ?_) | (with_reducible refine (C14b.out _ HX.out.hb).mono ?_)); rintro e w1 ⟨rfl, hb⟩; have HX := Lib.hid (HX.out.bel hb); clear hb r0 r1 r2 s0 s1 s2; have r0 := (blk_cell HX.out.hx 0).trans rfl; have r1 := (blk_cell HX.out.hx 1).trans rfl; have r2 := (blk_cell HX.out.hx 2).trans rfl; have s0 := (blk_cell HX.out.hy 0).trans rfl; have s1 := (blk_cell HX.out.hy 1).trans rfl; have s2 := (blk_cell HX.out.hy 2).trans rfl)
      | (go_at_call 12; with_reducible refine (C12.out _ HX.out.hb).mono ?_; rintro e w1 ⟨rfl, hb⟩; have HX := Lib.hid (HX.out.bel hb); clear hb r0 r1 r2 s0 s1 s2; have r0 := (blk_cell HX.out.hx 0).trans rfl; have r1 := (blk_cell HX.out.hx 1).trans rfl; have r2 := (blk_cell HX.out.hx 2).trans rfl; have s0 := (blk_cell HX.out.hy 0).trans rfl; have s1 := (blk_cell HX.out.hy 1).trans rfl; have s2 := (blk_cell HX.out.hy 2).trans rfl))
    go_ret
    exact ⟨rfl, HX.out.hb⟩
  have e3 : ((sizeM b 301 : Nat) : Int) ≤ 300 := by unfold sizeM; omega
  by_cases h3 : 3000 < s.length
  · have e4 : ((s.length : Nat) : Int) > 3000 := by omega
    go_enter Tryd.func11, Tryd.ntmps11
    go_upto_region 1 with fail
    rw [← HW2.out]
    go_wp2_with (first
      | (go_at_call 14; (first | (with_reducible refine (C14a.out _ HX.out.hb).mono ?_) | (with_reducible refine (C14b.out _ HX.out.hb).mono ?_)); rintro e w1 ⟨rfl, hb⟩; have HX := Lib.hid (HX.out.bel hb); clear hb r0 r1 r2 s0 s1 s2; have r0 := (blk_cell HX.out.hx 0).trans rfl; have r1 := (blk_cell HX.out.hx 1).trans rfl; have r2 := (blk_cell HX.out.hx 2).trans rfl; have s0 := (blk_cell HX.out.hy 0).trans rfl; have s1 := (blk_cell HX.out.hy 1).trans rfl; have s2 := (blk_cell HX.out.hy 2).trans rfl)
      | (go_at_call 12; with_reducible refine (C12.out _ HX.out.hb).mono ?_; rintro e w1 ⟨rfl, hb⟩; have HX := Lib.hid (HX.out.bel hb); clear hb r0 r1 r2 s0 s1 s2; have r0 := (blk_cell HX.out.hx 0).trans rfl; have r1 := (blk_cell HX.out.hx 1).trans rfl; have r2 := (blk_cell HX.out.hx 2).trans rfl; have s0 := (blk_cell HX.out.hy 0).trans rfl; have s1 := (blk_cell HX.out.hy 1).trans rfl; have s2 := (blk_cell HX.out.hy 2).trans rfl))
    go_ret
    exact ⟨rfl, HX.out.hb⟩
  have e4 : ((s.length : Nat) : Int) ≤ 3000 := by omega
  have C35a : Hid (∀ w1, Below w.heap.size w w1 → Calls Tryd.prog 35 #[.agg #[.int .i64 a.k, .int .i64 a.n, .slice Aa a.args.length ca]] w1 fun e w' => ∃ v', e = .returned v' ∧ TR w' Any (ordM a) v' ∧ Below w1.heap.size w1 w') := fun w1 hb => Order_any a _ w1 (HA.out.bel hb) (HTab.out.bel hb)
  have C35b : Hid (∀ w1, Below w.heap.size w w1 → Calls Tryd.prog 35 #[.agg #[.int .i64 b.k, .int .i64 b.n, .slice Ab b.args.length cb]] w1 fun e w' => ∃ v', e = .returned v' ∧ TR w' Any (ordM b) v' ∧ Below w1.heap.size w1 w') := fun w1 hb => Order_any b _ w1 (HB.out.bel hb) (HTab.out.bel hb)
  have C34 : Hid (∀ w1, Below w.heap.size w w1 → Calls Tryd.prog 34 #[.agg #[.int .i64 a.k, .int .i64 a.n, .slice Aa a.args.length ca], .agg #[.int .i64 b.k, .int .i64 b.n, .slice Ab b.args.length cb]] w1 fun e w' => e = .returned (.bool (sameS a b)) ∧ Below w1.heap.size w1 w') := fun w1 hb => Same_any a b _ _ w1 (HA.out.bel hb) (HB.out.bel hb) (HTab.out.bel hb)
  have C35o : Hid (∀ (v : Value) (w1 : World), TR w1 Any (ordM a) v → Below w.heap.size w w1 → Calls Tryd.prog 35 #[v] w1 fun e w' => ∃ v', e = .returned v' ∧ TR w' Any (ordM a) v' ∧ Below w1.heap.size w1 w') := fun v w1 hT hb => by
    have := Order_any (ordM a) v w1 hT (HTab.out.bel hb)
    rw [show (if may (ordM a) = true then ord (ordM a) else ordM a) = ordM a from ordM_ordM a] at this
    exact this
  have C31a : Hid (∀ (v : Value) (w1 : World), TR w1 Any (ordM a) v → Below w.heap.size w w1 → Calls Tryd.prog 31 #[v] w1 fun e w' => e = .returned (.tuple #[.string ⟨(xM a).toArray⟩, .int .i64 (eM a)]) ∧ Below w1.heap.size w1 w') := fun v w1 hT hb => Text_ordM a v w1 hT (HTab.out.bel hb)
  have C31b : Hid (∀ (v : Value) (w1 : World), TR w1 Any (ordM b) v → Below w.heap.size w w1 → Calls Tryd.prog 31 #[v] w1 fun e w' => e = .returned (.tuple #[.string ⟨(xM b).toArray⟩, .int .i64 (eM b)]) ∧ Below w1.heap.size w1 w') := fun v w1 hT hb => Text_ordM b v w1 hT (HTab.out.bel hb)
  have hcase := xM_cases a b
  obtain ⟨xa, hxa⟩ : ∃ x, x = xM a := ⟨_, rfl⟩
  obtain ⟨ea, hea⟩ : ∃ x, x = eM a := ⟨_, rfl⟩
  obtain ⟨xb, hxb⟩ : ∃ x, x = xM b := ⟨_, rfl⟩
  obtain ⟨eb, heb⟩ : ∃ x, x = eM b := ⟨_, rfl⟩
  obtain ⟨sm, hsm⟩ : ∃ x, x = sameS a b := ⟨_, rfl⟩
  rw [← hxa, ← hea] at C31a hcase
  rw [← hxb, ← heb] at C31b hcase
  rw [← hsm] at C34 hcase
  have hea2 := eM_02 a
  have heb2 := eM_02 b
  rw [← hea] at hea2
  rw [← heb] at heb2
  have HCASE := Lib.hid hcase
  clear hxa hea hxb heb hsm hcase
  go_enter Tryd.func11, Tryd.ntmps11
  go_upto_region 1 with fail
  rw [← HW2.out]
  go_upto_region 4 with (first
    | (go_at_call 14; (first | (with_reducible refine (C14a.out _ HX.out.hb).mono ?_) | (with_reducible refine (C14b.out _ HX.out.hb).mono ?_)); rintro e w1 ⟨rfl, hb⟩; have HX := Lib.hid (HX.out.bel hb); clear hb r0 r1 r2 s0 s1 s2; have r0 := (blk_cell HX.out.hx 0).trans rfl; have r1 := (blk_cell HX.out.hx 1).trans rfl; have r2 := (blk_cell HX.out.hx 2).trans rfl; have s0 := (blk_cell HX.out.hy 0).trans rfl; have s1 := (blk_cell HX.out.hy 1).trans rfl; have s2 := (blk_cell HX.out.hy 2).trans rfl)
    | (go_at_call 35; with_reducible refine (C35a.out _ HX.out.hb).mono ?_; rintro e w1 ⟨vo, rfl, hTo, hb⟩; have HTO := Lib.hid hTo; clear hTo; have HX := Lib.hid (HX.out.bel hb); clear hb r0 r1 r2 s0 s1 s2; have r0 := (blk_cell HX.out.hx 0).trans rfl; have r1 := (blk_cell HX.out.hx 1).trans rfl; have r2 := (blk_cell HX.out.hx 2).trans rfl; have s0 := (blk_cell HX.out.hy 0).trans rfl; have s1 := (blk_cell HX.out.hy 1).trans rfl; have s2 := (blk_cell HX.out.hy 2).trans rfl)
    | (go_at_call 31; with_reducible refine (C31a.out _ _ HTO.out HX.out.hb).mono ?_; rintro e w1 ⟨rfl, hb⟩; clear HTO; have HX := Lib.hid (HX.out.bel hb); clear hb r0 r1 r2 s0 s1 s2; have r0 := (blk_cell HX.out.hx 0).trans rfl; have r1 := (blk_cell HX.out.hx 1).trans rfl; have r2 := (blk_cell HX.out.hx 2).trans rfl; have s0 := (blk_cell HX.out.hy 0).trans rfl; have s1 := (blk_cell HX.out.hy 1).trans rfl; have s2 := (blk_cell HX.out.hy 2).trans rfl))
  go_upto_region 5 with (first
    | (go_at_call 35; with_reducible refine (C35b.out _ HX.out.hb).mono ?_; rintro e w1 ⟨vo, rfl, hTo, hb⟩; have HTO := Lib.hid hTo; clear hTo; have HX := Lib.hid (HX.out.bel hb); clear hb r0 r1 r2 s0 s1 s2; have r0 := (blk_cell HX.out.hx 0).trans rfl; have r1 := (blk_cell HX.out.hx 1).trans rfl; have r2 := (blk_cell HX.out.hx 2).trans rfl; have s0 := (blk_cell HX.out.hy 0).trans rfl; have s1 := (blk_cell HX.out.hy 1).trans rfl; have s2 := (blk_cell HX.out.hy 2).trans rfl)
    | (go_at_call 31; with_reducible refine (C31b.out _ _ HTO.out HX.out.hb).mono ?_; rintro e w1 ⟨rfl, hb⟩; clear HTO; have HX := Lib.hid (HX.out.bel hb); clear hb r0 r1 r2 s0 s1 s2; have r0 := (blk_cell HX.out.hx 0).trans rfl; have r1 := (blk_cell HX.out.hx 1).trans rfl; have r2 := (blk_cell HX.out.hx 2).trans rfl; have s0 := (blk_cell HX.out.hy 0).trans rfl; have s1 := (blk_cell HX.out.hy 1).trans rfl; have s2 := (blk_cell HX.out.hy 2).trans rfl))
  go_upto_region 6 with (first
    | (go_at_call 35; (first | (with_reducible refine (C35a.out _ HX.out.hb).mono ?_) | (with_reducible refine (C35o.out _ _ HTO.out HX.out.hb).mono ?_)); rintro e w1 ⟨vo, rfl, hTo, hb⟩; have HTO := Lib.hid hTo; clear hTo; have HX := Lib.hid (HX.out.bel hb); clear hb r0 r1 r2 s0 s1 s2; have r0 := (blk_cell HX.out.hx 0).trans rfl; have r1 := (blk_cell HX.out.hx 1).trans rfl; have r2 := (blk_cell HX.out.hx 2).trans rfl; have s0 := (blk_cell HX.out.hy 0).trans rfl; have s1 := (blk_cell HX.out.hy 1).trans rfl; have s2 := (blk_cell HX.out.hy 2).trans rfl)
    | (go_at_call 31; with_reducible refine (C31a.out _ _ HTO.out HX.out.hb).mono ?_; rintro e w1 ⟨rfl, hb⟩; clear HTO; have HX := Lib.hid (HX.out.bel hb); clear hb r0 r1 r2 s0 s1 s2; have r0 := (blk_cell HX.out.hx 0).trans rfl; have r1 := (blk_cell HX.out.hx 1).trans rfl; have r2 := (blk_cell HX.out.hx 2).trans rfl; have s0 := (blk_cell HX.out.hy 0).trans rfl; have s1 := (blk_cell HX.out.hy 1).trans rfl; have s2 := (blk_cell HX.out.hy 2).trans rfl))
  have hneq : (ea != ea) = false := by simp
  have hxeq : (xa != xa) = false := by simp
  have COf : Hid (∀ w1, Below w.heap.size w w1 → Calls Tryd.prog 32 #[.string ⟨s.toArray⟩] w1 (OfT w1 s)) := fun w1 hb => tOf_any s (by omega) w1 (HTab.out.bel hb) (HErr.out.bel hb)
  go_cut [76] from 50 to 75 (fun m w' => m = .bool false ∧ Hid (FW w #[.int .i64 a.k, .int .i64 a.n, .slice Aa a.args.length ca] #[.int .i64 b.k, .int .i64 b.n, .slice Ab b.args.length cb] w'))
  case first =>
    rcases HCASE.out with ⟨rfl, rfl, hsx⟩ | hne
    · have hsx2 : (xa == xb) = sm := hsx
      cases sm
      · skip
        go_wp2_with (first
          | (go_at_call 25; refine (num_any _ _).mono ?_; rintro e w1 ⟨rfl, rfl⟩)
          | (go_at_call 34; with_reducible refine (C34.out _ HX.out.hb).mono ?_; rintro e w1 ⟨rfl, hb⟩; have HX := Lib.hid (HX.out.bel hb); clear hb r0 r1 r2 s0 s1 s2; have r0 := (blk_cell HX.out.hx 0).trans rfl; have r1 := (blk_cell HX.out.hx 1).trans rfl; have r2 := (blk_cell HX.out.hx 2).trans rfl; have s0 := (blk_cell HX.out.hy 0).trans rfl; have s1 := (blk_cell HX.out.hy 1).trans rfl; have s2 := (blk_cell HX.out.hy 2).trans rfl))
        go_meet
        case rel => exact ⟨rfl, HX⟩
      · skip
        go_wp2_with (first
          | (go_at_call 25; refine (num_any _ _).mono ?_; rintro e w1 ⟨rfl, rfl⟩)
          | (go_at_call 34; with_reducible refine (C34.out _ HX.out.hb).mono ?_; rintro e w1 ⟨rfl, hb⟩; have HX := Lib.hid (HX.out.bel hb); clear hb r0 r1 r2 s0 s1 s2; have r0 := (blk_cell HX.out.hx 0).trans rfl; have r1 := (blk_cell HX.out.hx 1).trans rfl; have r2 := (blk_cell HX.out.hx 2).trans rfl; have s0 := (blk_cell HX.out.hy 0).trans rfl; have s1 := (blk_cell HX.out.hy 1).trans rfl; have s2 := (blk_cell HX.out.hy 2).trans rfl))
        go_meet
        case rel => exact ⟨rfl, HX⟩
    · have hne2 : (ea + eb == 0) = false := hne
      go_wp2_with (first
        | (go_at_call 25; refine (num_any _ _).mono ?_; rintro e w1 ⟨rfl, rfl⟩)
        | (go_at_call 34; with_reducible refine (C34.out _ HX.out.hb).mono ?_; rintro e w1 ⟨rfl, hb⟩; have HX := Lib.hid (HX.out.bel hb); clear hb r0 r1 r2 s0 s1 s2; have r0 := (blk_cell HX.out.hx 0).trans rfl; have r1 := (blk_cell HX.out.hx 1).trans rfl; have r2 := (blk_cell HX.out.hx 2).trans rfl; have s0 := (blk_cell HX.out.hy 0).trans rfl; have s1 := (blk_cell HX.out.hy 1).trans rfl; have s2 := (blk_cell HX.out.hy 2).trans rfl))
      go_meet
      case rel => exact ⟨rfl, HX⟩
  case rest =>
    obtain ⟨rfl, HX⟩ := hcut
    have r0 := (blk_cell HX.out.hx 0).trans rfl; have r1 := (blk_cell HX.out.hx 1).trans rfl; have r2 := (blk_cell HX.out.hx 2).trans rfl; have s0 := (blk_cell HX.out.hy 0).trans rfl; have s1 := (blk_cell HX.out.hy 1).trans rfl; have s2 := (blk_cell HX.out.hy 2).trans rfl
    go_upto_region 9 with fail
    with_reducible refine (COf.out _ HX.out.hb).mono ?_
    rintro e w1 ⟨k, n, A, len, c, x, rfl, hb, hof⟩
    have HOF := Lib.hid hof; clear hof; have HX := Lib.hid (HX.out.bel hb); clear hb r0 r1 r2 s0 s1 s2; have r0 := (blk_cell HX.out.hx 0).trans rfl; have r1 := (blk_cell HX.out.hx 1).trans rfl; have r2 := (blk_cell HX.out.hx 2).trans rfl; have s0 := (blk_cell HX.out.hy 0).trans rfl; have s1 := (blk_cell HX.out.hy 1).trans rfl; have s2 := (blk_cell HX.out.hy 2).trans rfl
    go_upto_region 9 with fail
    obtain ⟨W3, hW3⟩ : ∃ W3 : World, W3 = w1.alloc (.cells #[.int .i64 k, .int .i64 n, .slice A len c] 25) := ⟨_, rfl⟩
    have HBX : Hid (W3.heap[w1.heap.size]? = some (.cells #[.int .i64 k, .int .i64 n, .slice A len c] 25 (0, 0))) := by rw [hW3]; exact heap_alloc_new _ _
    have HX3 : Hid (FW w #[.int .i64 a.k, .int .i64 a.n, .slice Aa a.args.length ca] #[.int .i64 b.k, .int .i64 b.n, .slice Ab b.args.length cb] W3) := by rw [hW3]; exact HX.out.bel (bself _ _)
    have HB13 : Hid (Below w1.heap.size w1 W3) := by rw [hW3]; exact bself _ _
    rw [← hW3]
    clear hW3 r0 r1 r2 s0 s1 s2
    rcases HOF.out with ⟨rfl, t, hT, hm, hts⟩ | ⟨rfl, _⟩
    · have hx := Text_any t _ W3 ((hT.any).bel HB13.out) (HTab.out.bel HX3.out.hb)
      rw [if_pos hm, if_pos hm, hts] at hx
      have t0 := (blk_cell HBX.out 0).trans rfl
      have t1 := (blk_cell HBX.out 1).trans rfl
      have t2 := (blk_cell HBX.out 2).trans rfl
      have hss : (s != s) = false := by simp
      clear hT hm hts
      go_wp2_with (first
        | (go_at_call 25; refine (num_any _ _).mono ?_; rintro e w1 ⟨rfl, rfl⟩)
        | (go_at_call 31; refine hx.mono ?_; clear hx; rintro e w2 ⟨rfl, hb⟩; have HX := Lib.hid (HX3.out.bel hb); clear hb t0 t1 t2)
        | (go_at_call 12; with_reducible refine (C12.out _ HX.out.hb).mono ?_; rintro e w3 ⟨rfl, hb⟩; have HX := Lib.hid (HX.out.bel hb); clear hb))
      go_ret
      exact ⟨rfl, HX.out.hb⟩
    · have HX := HX3
      go_wp2_with (first
        | (go_at_call 25; refine (num_any _ _).mono ?_; rintro e w1 ⟨rfl, rfl⟩)
        | (go_at_call 12; with_reducible refine (C12.out _ HX.out.hb).mono ?_; rintro e w3 ⟨rfl, hb⟩; have HX := Lib.hid (HX.out.bel hb); clear hb))
      go_ret
      exact ⟨rfl, HX.out.hb⟩
end Go.Proofs.YtfhpnkmhppfeiaaDoor
