/- The reference: form, May. -/
import Derived.Test.YtfhpnkmhppfeiaaDoorR2
set_option linter.unusedVariables false
set_option linter.unusedSimpArgs false
namespace Go.Proofs.YtfhpnkmhppfeiaaDoor
open Go.RowKit Go.Proofs
theorem formL_take {args : List Tm} {j : Nat} {a : Tm} (h : args[j]? = some a) : formL (args.drop j) = (form a && formL (args.drop (j + 1))) := by
  have hl := (List.getElem?_eq_some_iff.1 h).1
  rw [List.drop_eq_getElem_cons hl]
  have : args[j] = a := by rw [List.getElem?_eq_getElem hl] at h; exact Option.some.inj h
  rw [this]; rfl
set_option maxRecDepth 100000 in
set_option maxHeartbeats 2000000 in
theorem form_any : ∀ (N : Nat) (t : Tm) (v : Value) (w : World), size t ≤ N → TR w Any t v →
    Calls Tryd.prog 36 #[v] w fun e w' => e = .returned (.bool (form t)) ∧ Below w.heap.size w w' := by
  intro N
  induction N with
  | zero => intro t v w h; have := size_pos t; omega
  | succ N ih =>
    rintro ⟨k, n, args⟩ v w hN hT
    obtain ⟨s, rfl, hk, hn, hS⟩ := hT.inv
    obtain ⟨A, c, rfl, hc1, hc2⟩ := hS.form
    have HS := Lib.hid hS
    have HN := Lib.hid hN
    clear hS hN hT
    obtain ⟨W0, hW0⟩ : ∃ W0, W0 = w.alloc (.cells #[.int .i64 k, .int .i64 n, .slice A args.length c] 25) := ⟨_, rfl⟩
    have HB0 : Hid (Below w.heap.size w W0) := by rw [hW0]; exact bself _ _
    have HA0 : Hid (W0.heap[w.heap.size]? = some (.cells #[.int .i64 k, .int .i64 n, .slice A args.length c] 25 (0, 0))) := by rw [hW0]; exact heap_alloc_new _ _
    have hsz : w.heap.size + 1 = W0.heap.size := by rw [hW0]; simp
    obtain ⟨q0, q1, q2, _, _, _⟩ := cell3_load HA0.out
    have l0 : ∀ x : Later W0.heap.size W0, x.w.cell? ⟨w.heap.size, 0, none⟩ = some (.int .i64 k) := fun x => x.cell q0 (by simp; omega)
    have l1 : ∀ x : Later W0.heap.size W0, x.w.cell? ⟨w.heap.size, 1, none⟩ = some (.int .i64 n) := fun x => x.cell q1 (by simp; omega)
    have l2 : ∀ x : Later W0.heap.size W0, x.w.cell? ⟨w.heap.size, 2, none⟩ = some (.slice A args.length c) := fun x => x.cell q2 (by simp; omega)
    clear q0 q1 q2 hsz
    have no : ∀ {b : Bool}, headOK k n args.length = false → b = false → b = form (.mk k n args) := fun h hb => by rw [form, h, hb]; rfl
    by_cases h1 : k < 1
    · have HF : Hid (false = form (.mk k n args)) := by unfold Hid; rw [form]; unfold headOK isKind; simp; omega
      have HAR : Hid (∀ x : Later W0.heap.size W0, Calls Tryd.prog 54 #[.int .i64 1] x.w fun e w' => e = .returned (.int .i64 (arity 1 : Nat)) ∧ Below x.w.heap.size x.w w') := fun x => args_any 1 x.w rfl
      go_enter Tryd.func36, Tryd.ntmps36
      go_wp2_with fail
      rw [← hW0]
      clear hW0
      refine wp_region_later W0.heap.size (by kernel_rfl) ?_
      repeat (first | go_big_quiet_step ((go_at_call 54; with_reducible exact later_call (HAR.out _) (Nat.le_refl _))) | quiet_step ((go_at_call 54; with_reducible exact later_call (HAR.out _) (Nat.le_refl _))))
      refine wpQuiet_nil (later_all ?_)
      intro wx hx
      have HX := Lib.hid hx
      clear hx l0 l1 l2
      go_wp2_with fail
      go_ret
      exact ⟨ret_b (HF.out), bthen HB0.out HX.out⟩
    by_cases h2 : k > 9
    · have HF : Hid (false = form (.mk k n args)) := by unfold Hid; rw [form]; unfold headOK isKind; simp; omega
      have HAR : Hid (∀ x : Later W0.heap.size W0, Calls Tryd.prog 54 #[.int .i64 1] x.w fun e w' => e = .returned (.int .i64 (arity 1 : Nat)) ∧ Below x.w.heap.size x.w w') := fun x => args_any 1 x.w rfl
      go_enter Tryd.func36, Tryd.ntmps36
      go_wp2_with fail
      rw [← hW0]
      clear hW0
      refine wp_region_later W0.heap.size (by kernel_rfl) ?_
      repeat (first | go_big_quiet_step ((go_at_call 54; with_reducible exact later_call (HAR.out _) (Nat.le_refl _))) | quiet_step ((go_at_call 54; with_reducible exact later_call (HAR.out _) (Nat.le_refl _))))
      refine wpQuiet_nil (later_all ?_)
      intro wx hx
      have HX := Lib.hid hx
      clear hx l0 l1 l2
      go_wp2_with fail
      go_ret
      exact ⟨ret_b (HF.out), bthen HB0.out HX.out⟩
    have hke : isKind k = true := by simp [isKind]; omega
    by_cases h3 : args.length = arity k
    · have e3 : ((args.length : Int) != ((arity k : Nat) : Int)) = false := by rw [h3]; simp
      have hz : (arity k == 0) = decide (k ≤ 2) := by
        unfold arity
        repeat' split
        all_goals first | (rw [decide_eq_true (by omega)]; rfl) | (rw [decide_eq_false (by omega)]; rfl)
      by_cases h4 : n < 0
      · have HAR : Hid (∀ x : Later W0.heap.size W0, Calls Tryd.prog 54 #[.int .i64 k] x.w fun e w' => e = .returned (.int .i64 (arity k : Nat)) ∧ Below x.w.heap.size x.w w') := fun x => args_any k x.w (by simp [isKind]; omega)
        have HF : Hid (false = form (.mk k n args)) := by unfold Hid; rw [form]; unfold headOK; rw [decide_eq_false (show ¬ 0 ≤ n by omega)]; simp
        clear h3 hz hke
        go_enter Tryd.func36, Tryd.ntmps36
        go_wp2_with fail
        rw [← hW0]
        clear hW0
        refine wp_region_later W0.heap.size (by kernel_rfl) ?_
        repeat (first | go_big_quiet_step ((go_at_call 54; with_reducible exact later_call (HAR.out _) (Nat.le_refl _))) | quiet_step ((go_at_call 54; with_reducible exact later_call (HAR.out _) (Nat.le_refl _))))
        refine wpQuiet_nil (later_all ?_)
        intro wx hx
        have HX := Lib.hid hx
        clear hx l0 l1 l2
        go_wp2_with fail
        go_ret
        exact ⟨ret_b (HF.out), bthen HB0.out HX.out⟩
      by_cases h5 : n > 0
      · by_cases h6 : k > 2
        · have HAR : Hid (∀ x : Later W0.heap.size W0, Calls Tryd.prog 54 #[.int .i64 k] x.w fun e w' => e = .returned (.int .i64 (arity k : Nat)) ∧ Below x.w.heap.size x.w w') := fun x => args_any k x.w (by simp [isKind]; omega)
          have HF : Hid (false = form (.mk k n args)) := by unfold Hid; rw [form]; unfold headOK; rw [hz, decide_eq_false (show ¬ k ≤ 2 by omega), decide_eq_false (show ¬ n = 0 by omega)]; simp
          clear h3 hz hke
          go_enter Tryd.func36, Tryd.ntmps36
          go_wp2_with fail
          rw [← hW0]
          clear hW0
          refine wp_region_later W0.heap.size (by kernel_rfl) ?_
          repeat (first | go_big_quiet_step ((go_at_call 54; with_reducible exact later_call (HAR.out _) (Nat.le_refl _))) | quiet_step ((go_at_call 54; with_reducible exact later_call (HAR.out _) (Nat.le_refl _))))
          refine wpQuiet_nil (later_all ?_)
          intro wx hx
          have HX := Lib.hid hx
          clear hx l0 l1 l2
          go_wp2_with fail
          go_ret
          exact ⟨ret_b (HF.out), bthen HB0.out HX.out⟩
        · have HAR : Hid (∀ x : Later W0.heap.size W0, Calls Tryd.prog 54 #[.int .i64 k] x.w fun e w' => e = .returned (.int .i64 (arity k : Nat)) ∧ Below x.w.heap.size x.w w') := fun x => args_any k x.w (by simp [isKind]; omega)
          have HH : Hid (headOK k n args.length = true) := by unfold Hid headOK; rw [hke, h3, hz, decide_eq_true (show k ≤ 2 by omega), decide_eq_true (show 0 ≤ n by omega)]; simp
          clear h3 hz hke
          go_enter Tryd.func36, Tryd.ntmps36
          go_wp2_with fail
          rw [← hW0]
          clear hW0
          refine wp_region_later W0.heap.size (by kernel_rfl) ?_
          repeat (first | go_big_quiet_step ((go_at_call 54; with_reducible exact later_call (HAR.out _) (Nat.le_refl _))) | quiet_step ((go_at_call 54; with_reducible exact later_call (HAR.out _) (Nat.le_refl _))))
          refine wpQuiet_nil (later_all ?_)
          intro wx hx
          have HX := Lib.hid hx
          clear hx l0 l1 l2
          go_wp2_with fail
          obtain ⟨q0, q1, q2, _, _, _⟩ := cell3_load ((HX.out.block _ (Array.getElem?_eq_some_iff.1 HA0.out).1).trans HA0.out)
          clear q0 q1 q2
          go_loopw [3] (fun i wr => ∃ (j : Nat), i = .int .i64 j ∧ j ≤ args.length ∧ Hid (formL (args.drop j) = form (.mk k n args)) ∧ Hid (Below W0.heap.size W0 wr)) (fun i _ => args.length - (intOf i).toNat)
          case atStart => exact ⟨0, rfl, Nat.zero_le _, by unfold Hid; rw [form, HH.out]; rfl, HX.out⟩
          case round =>
            obtain ⟨j, rfl, hj, HFL, HB⟩ := hrel
            obtain ⟨q0, q1, q2, _, _, _⟩ := cell3_load ((HB.out.block _ (Array.getElem?_eq_some_iff.1 HA0.out).1).trans HA0.out)
            by_cases hlt : j < args.length
            · obtain ⟨a, ha⟩ : ∃ a, args[j]? = some a := ⟨_, List.getElem?_eq_getElem hlt⟩
              obtain ⟨b, o, A2, cc, rfl, _, hbs, c0, c1, c2, hTa⟩ := HS.out.at_ ha
              have HBW : Hid (Below w.heap.size w wr) := bthen HB0.out HB.out
              have d0 := (HBW.out.cell (p := ⟨b, o + j * 3, none⟩) hbs).trans c0
              have d1 := (HBW.out.cell (p := ⟨b, o + j * 3 + 1, none⟩) hbs).trans c1
              have d2 := (HBW.out.cell (p := ⟨b, o + j * 3 + 2, none⟩) hbs).trans c2
              have HAA := Lib.hid ha
              have hic := ih a _ wr (by have := size_at (k := k) (n := n) HAA.out; have := HN.out; omega) (hTa.bel HBW.out)
              clear ha c0 c1 c2 hTa
              cases hfa : form a with
              | true =>
                rw [hfa] at hic
                have HFA := Lib.hid hfa
                clear hfa
                go_wp2_with (go_at_call 36; refine hic.mono ?_; rintro e w1 ⟨rfl, hb1⟩)
                have HB1 := Lib.hid hb1
                clear hb1
                go_roundw
                case rel => exact ⟨j + 1, by go_num, by omega, by unfold Hid; rw [← HFL.out, formL_take HAA.out, HFA.out]; rfl, bthen HB.out HB1.out⟩
                case measure => simp [intOf]; omega
              | false =>
                rw [hfa] at hic
                have HFA := Lib.hid hfa
                clear hfa
                go_wp2_with (go_at_call 36; refine hic.mono ?_; rintro e w1 ⟨rfl, hb1⟩)
                go_ret
                exact ⟨ret_b (by rw [← HFL.out, formL_take HAA.out, HFA.out]; rfl), bthen HBW.out hb1⟩
            · obtain rfl : j = args.length := by omega
              go_wp2_with fail
              go_ret
              exact ⟨ret_b (by rw [← HFL.out, List.drop_length]; rfl), bthen HB0.out HB.out⟩
      · obtain rfl : n = 0 := by omega
        have HAR : Hid (∀ x : Later W0.heap.size W0, Calls Tryd.prog 54 #[.int .i64 k] x.w fun e w' => e = .returned (.int .i64 (arity k : Nat)) ∧ Below x.w.heap.size x.w w') := fun x => args_any k x.w (by simp [isKind]; omega)
        have HH : Hid (headOK k 0 args.length = true) := by unfold Hid headOK; rw [hke, h3]; simp
        clear h3 hz hke h4 h5
        go_enter Tryd.func36, Tryd.ntmps36
        go_wp2_with fail
        rw [← hW0]
        clear hW0
        refine wp_region_later W0.heap.size (by kernel_rfl) ?_
        repeat (first | go_big_quiet_step ((go_at_call 54; with_reducible exact later_call (HAR.out _) (Nat.le_refl _))) | quiet_step ((go_at_call 54; with_reducible exact later_call (HAR.out _) (Nat.le_refl _))))
        refine wpQuiet_nil (later_all ?_)
        intro wx hx
        have HX := Lib.hid hx
        clear hx l0 l1 l2
        go_wp2_with fail
        obtain ⟨q0, q1, q2, _, _, _⟩ := cell3_load ((HX.out.block _ (Array.getElem?_eq_some_iff.1 HA0.out).1).trans HA0.out)
        clear q0 q1 q2
        go_loopw [3] (fun i wr => ∃ (j : Nat), i = .int .i64 j ∧ j ≤ args.length ∧ Hid (formL (args.drop j) = form (.mk k 0 args)) ∧ Hid (Below W0.heap.size W0 wr)) (fun i _ => args.length - (intOf i).toNat)
        case atStart => exact ⟨0, rfl, Nat.zero_le _, by unfold Hid; rw [form, HH.out]; rfl, HX.out⟩
        case round =>
          obtain ⟨j, rfl, hj, HFL, HB⟩ := hrel
          obtain ⟨q0, q1, q2, _, _, _⟩ := cell3_load ((HB.out.block _ (Array.getElem?_eq_some_iff.1 HA0.out).1).trans HA0.out)
          by_cases hlt : j < args.length
          · obtain ⟨a, ha⟩ : ∃ a, args[j]? = some a := ⟨_, List.getElem?_eq_getElem hlt⟩
            obtain ⟨b, o, A2, cc, rfl, _, hbs, c0, c1, c2, hTa⟩ := HS.out.at_ ha
            have HBW : Hid (Below w.heap.size w wr) := bthen HB0.out HB.out
            have d0 := (HBW.out.cell (p := ⟨b, o + j * 3, none⟩) hbs).trans c0
            have d1 := (HBW.out.cell (p := ⟨b, o + j * 3 + 1, none⟩) hbs).trans c1
            have d2 := (HBW.out.cell (p := ⟨b, o + j * 3 + 2, none⟩) hbs).trans c2
            have HAA := Lib.hid ha
            have hic := ih a _ wr (by have := size_at (k := k) (n := 0) HAA.out; have := HN.out; omega) (hTa.bel HBW.out)
            clear ha c0 c1 c2 hTa
            cases hfa : form a with
            | true =>
              rw [hfa] at hic
              have HFA := Lib.hid hfa
              clear hfa
              go_wp2_with (go_at_call 36; refine hic.mono ?_; rintro e w1 ⟨rfl, hb1⟩)
              have HB1 := Lib.hid hb1
              clear hb1
              go_roundw
              case rel => exact ⟨j + 1, by go_num, by omega, by unfold Hid; rw [← HFL.out, formL_take HAA.out, HFA.out]; rfl, bthen HB.out HB1.out⟩
              case measure => simp [intOf]; omega
            | false =>
              rw [hfa] at hic
              have HFA := Lib.hid hfa
              clear hfa
              go_wp2_with (go_at_call 36; refine hic.mono ?_; rintro e w1 ⟨rfl, hb1⟩)
              go_ret
              exact ⟨ret_b (by rw [← HFL.out, formL_take HAA.out, HFA.out]; rfl), bthen HBW.out hb1⟩
          · obtain rfl : j = args.length := by omega
            go_wp2_with fail
            go_ret
            exact ⟨ret_b (by rw [← HFL.out, List.drop_length]; rfl), bthen HB0.out HB.out⟩
    · have e3 : ((args.length : Int) != ((arity k : Nat) : Int)) = true := by rw [bne_iff_ne]; omega
      have HAR : Hid (∀ x : Later W0.heap.size W0, Calls Tryd.prog 54 #[.int .i64 k] x.w fun e w' => e = .returned (.int .i64 (arity k : Nat)) ∧ Below x.w.heap.size x.w w') := fun x => args_any k x.w (by simp [isKind]; omega)
      have HF : Hid (false = form (.mk k n args)) := by unfold Hid; rw [form]; unfold headOK; rw [show (args.length == arity k) = false by rw [beq_eq_false_iff_ne]; exact h3]; simp
      clear h3 hke
      go_enter Tryd.func36, Tryd.ntmps36
      go_wp2_with fail
      rw [← hW0]
      clear hW0
      refine wp_region_later W0.heap.size (by kernel_rfl) ?_
      repeat (first | go_big_quiet_step ((go_at_call 54; with_reducible exact later_call (HAR.out _) (Nat.le_refl _))) | quiet_step ((go_at_call 54; with_reducible exact later_call (HAR.out _) (Nat.le_refl _))))
      refine wpQuiet_nil (later_all ?_)
      intro wx hx
      have HX := Lib.hid hx
      clear hx l0 l1 l2
      go_wp2_with fail
      go_ret
      exact ⟨ret_b (HF.out), bthen HB0.out HX.out⟩
set_option maxRecDepth 100000 in
set_option maxHeartbeats 1000000 in
theorem rMay_any (t : Tm) (v : Value) (w : World) (hT : TR w Any t v) : Calls Tryd.prog 16 #[v] w fun e w' => e = .returned (.bool (may t)) ∧ Below w.heap.size w w' := by
  obtain ⟨A, c, rfl⟩ := hT.form3
  have HT := Lib.hid hT
  have hs := Size_any _ t _ 2000 (w.alloc (.cells #[.int .i64 t.k, .int .i64 t.n, .slice A t.args.length c] 25)) (Nat.le_refl _) (by omega) (hT.bel (bself w _))
  have HA := Lib.hid (heap_alloc_new w (.cells #[.int .i64 t.k, .int .i64 t.n, .slice A t.args.length c] 25))
  clear hT
  by_cases h : size t ≤ 2000
  · have e : ((sizeM t 2000 : Nat) : Int) ≤ 2000 := by unfold sizeM; omega
    have HM : Hid (may t = form t) := by unfold Hid may; rw [decide_eq_true h]; simp
    go_enter Tryd.func16, Tryd.ntmps16
    go_wp2_with (first
      | (go_at_call 14; refine hs.mono ?_; rintro e w2 ⟨rfl, hb⟩; have HB := Lib.hid (bthen (bself w _) hb); obtain ⟨q0, q1, q2, _, _, _⟩ := cell3_load ((hb.block w.heap.size (by simp)).trans HA.out); have hf := form_any _ t _ w2 (Nat.le_refl _) (HT.out.bel HB.out); clear hb)
      | (go_at_call 36; refine hf.mono ?_; rintro e w3 ⟨rfl, hb3⟩))
    go_ret
    exact ⟨by rw [HM.out]; rfl, bthen HB.out hb3⟩
  · have e : ¬ ((sizeM t 2000 : Nat) : Int) ≤ 2000 := by unfold sizeM; omega
    have HM : Hid (may t = false) := by unfold Hid may; rw [decide_eq_false h]; simp
    go_enter Tryd.func16, Tryd.ntmps16
    go_wp2_with (go_at_call 14; refine hs.mono ?_; rintro e w2 ⟨rfl, hb⟩)
    go_ret
    exact ⟨by rw [HM.out]; rfl, bthen (bself w _) hb⟩
end Go.Proofs.YtfhpnkmhppfeiaaDoor
