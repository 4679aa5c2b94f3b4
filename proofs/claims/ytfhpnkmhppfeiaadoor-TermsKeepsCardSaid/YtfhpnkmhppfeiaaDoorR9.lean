/- The law's bare. -/
import Derived.Test.YtfhpnkmhppfeiaaDoorR1
import Derived.Test.YtfhpnkmhppfeiaaDoorPlain3
import Derived.Test.YtfhpnkmhppfeiaaDoorA15
set_option linter.unusedVariables false
set_option linter.unusedSimpArgs false
namespace Go.Proofs.YtfhpnkmhppfeiaaDoor
open Go.RowKit Go.Proofs
set_option maxRecDepth 100000 in
set_option maxHeartbeats 1000000 in
theorem bare_any (m : Int) : ∀ (N : Nat) (t : Tm) (v : Value) (w : World), size t ≤ N → form t = true → TR w Any t v →
    Calls Tryd.prog 19 #[v, .int .i64 m] w fun e w' => e = .returned (.bool (bareS t m)) ∧ Below w.heap.size w w' := by
  intro N
  induction N with
  | zero => intro t v w h; have := size_pos t; omega
  | succ N ih =>
    rintro ⟨k, n, args⟩ v w hN hf hT
    obtain ⟨s, rfl, hk, hn, hS⟩ := hT.inv
    obtain ⟨A, c, rfl, hc1, hc2⟩ := hS.form
    have HS := Lib.hid hS
    have HN := Lib.hid hN
    have HF := Lib.hid hf
    clear hS hN hT hf
    by_cases h2 : k = 2
    · subst h2
      have HB : Hid (bareS (.mk 2 n args) m = (n == m)) := by unfold Hid; rw [bareS, if_pos rfl]; exact Bool.eq_iff_iff.2 (by simp)
      go_enter Tryd.func19, Tryd.ntmps19
      go_wp2_with fail
      go_ret
      exact ⟨ret_b HB.out.symm, bself w _⟩
    have e2 : (k == 2) = false := by rw [beq_eq_false_iff_ne]; exact h2
    have arg : ∀ (x : Tm) (j : Nat), args[j]? = some x → size x ≤ N ∧ form x = true := fun x j hj => ⟨by have := size_at (k := k) (n := n) hj; have := HN.out; omega, form_mem HF.out (List.mem_of_getElem? hj)⟩
    by_cases h7 : k = 7
    · subst h7
      obtain ⟨x, y, rfl⟩ := two_args HF.out (by omega) (by omega)
      obtain ⟨b, o, A1, m1, rfl, _, hb1, c0, c1, c2, hTx⟩ := HS.out.at_ (j := 0) rfl
      obtain ⟨b', o', A2, m2, eg, _, _, c3, c4, c5, hTy⟩ := HS.out.at_ (j := 1) rfl
      cases eg
      simp only [Nat.zero_mul, Nat.add_zero, Nat.one_mul] at c0 c1 c2 c3 c4 c5
      have hx := ih x _ (w.alloc (.cells #[.int .i64 7, .int .i64 n, .slice (some ⟨b, o, none⟩) [x, y].length c] 25)) (arg x 0 rfl).1 (arg x 0 rfl).2 (hTx.bel (bself w _))
      have hy := fun w1 (hb : Below w.heap.size w w1) => ih y _ w1 (arg y 1 rfl).1 (arg y 1 rfl).2 (hTy.bel hb)
      have HB : Hid (bareS (.mk 7 n [x, y]) m = (bareS x m || bareS y m)) := by unfold Hid; simp [bareS, bareL]
      have HA := Lib.hid (heap_alloc_new w (.cells #[.int .i64 7, .int .i64 n, .slice (some ⟨b, o, none⟩) [x, y].length c] 25))
      have HY := Lib.hid hy
      have D3 := Lib.hid c3
      have D4 := Lib.hid c4
      have D5 := Lib.hid c5
      clear hTx hTy hy arg c3 c4 c5
      cases hbx : bareS x m with
      | true =>
        rw [hbx] at hx
        have HBX := Lib.hid hbx
        clear hbx
        go_enter Tryd.func19, Tryd.ntmps19
        go_wp2_with (go_at_call 19; refine hx.mono ?_; rintro e w1 ⟨rfl, hb⟩)
        go_ret
        exact ⟨ret_b (by rw [HB.out, HBX.out]; rfl), bthen (bself w _) hb⟩
      | false =>
        rw [hbx] at hx
        have HBX := Lib.hid hbx
        clear hbx
        obtain ⟨yb, hyb⟩ : ∃ yb, yb = bareS y m := ⟨_, rfl⟩
        rw [← hyb] at HY HB
        clear hyb
        go_enter Tryd.func19, Tryd.ntmps19
        go_wp2_with (first
          | (go_at_call 19; refine hx.mono ?_; clear hx; rintro e w1 ⟨rfl, hb⟩; have hbw := bthen (bself w _) hb; have hy := HY.out w1 hbw; obtain ⟨q0, q1, q2, _, _, _⟩ := cell3_load ((hb.block w.heap.size (by simp)).trans HA.out); have d3 := (hbw.cell (p := ⟨b, o + 3, none⟩) hb1).trans D3.out; have d4 := (hbw.cell (p := ⟨b, o + 3 + 1, none⟩) hb1).trans D4.out; have d5 := (hbw.cell (p := ⟨b, o + 3 + 2, none⟩) hb1).trans D5.out; have HBW := Lib.hid hbw; clear hb hbw)
          | (go_at_call 19; refine hy.mono ?_; rintro e w2 ⟨rfl, hb2⟩))
        go_ret
        exact ⟨ret_b (by rw [HB.out, HBX.out]; rfl), bthen HBW.out hb2⟩
    have e7 : (k == 7) = false := by rw [beq_eq_false_iff_ne]; exact h7
    by_cases h45 : k = 4 ∨ k = 5
    · rcases h45 with rfl | rfl
      · obtain ⟨x, y, rfl⟩ := two_args HF.out (by omega) (by omega)
        obtain ⟨b, o, A2, m2, rfl, _, hb1, c3, c4, c5, hTy⟩ := HS.out.at_ (j := 1) rfl
        simp only [Nat.one_mul] at c3 c4 c5
        have hy := ih y _ (w.alloc (.cells #[.int .i64 4, .int .i64 n, .slice (some ⟨b, o, none⟩) [x, y].length c] 25)) (arg y 1 rfl).1 (arg y 1 rfl).2 (hTy.bel (bself w _))
        have HB : Hid (bareS (.mk 4 n [x, y]) m = bareS y m) := by unfold Hid; simp [bareS, bareL]
        obtain ⟨yb, hyb⟩ : ∃ yb, yb = bareS y m := ⟨_, rfl⟩
        rw [← hyb] at hy HB
        clear hyb hTy arg
        go_enter Tryd.func19, Tryd.ntmps19
        go_wp2_with (go_at_call 19; refine hy.mono ?_; rintro e w2 ⟨rfl, hb2⟩)
        go_ret
        exact ⟨ret_b (by rw [HB.out]), bthen (bself w _) hb2⟩
      · obtain ⟨x, y, rfl⟩ := two_args HF.out (by omega) (by omega)
        obtain ⟨b, o, A2, m2, rfl, _, hb1, c3, c4, c5, hTy⟩ := HS.out.at_ (j := 1) rfl
        simp only [Nat.one_mul] at c3 c4 c5
        have hy := ih y _ (w.alloc (.cells #[.int .i64 5, .int .i64 n, .slice (some ⟨b, o, none⟩) [x, y].length c] 25)) (arg y 1 rfl).1 (arg y 1 rfl).2 (hTy.bel (bself w _))
        have HB : Hid (bareS (.mk 5 n [x, y]) m = bareS y m) := by unfold Hid; simp [bareS, bareL]
        obtain ⟨yb, hyb⟩ : ∃ yb, yb = bareS y m := ⟨_, rfl⟩
        rw [← hyb] at hy HB
        clear hyb hTy arg
        go_enter Tryd.func19, Tryd.ntmps19
        go_wp2_with (go_at_call 19; refine hy.mono ?_; rintro e w2 ⟨rfl, hb2⟩)
        go_ret
        exact ⟨ret_b (by rw [HB.out]), bthen (bself w _) hb2⟩
    have e4 : (k == 4) = false := by rw [beq_eq_false_iff_ne]; exact fun e => h45 (.inl e)
    have e5 : (k == 5) = false := by rw [beq_eq_false_iff_ne]; exact fun e => h45 (.inr e)
    have HB : Hid (bareS (.mk k n args) m = false) := by unfold Hid; rw [bareS, if_neg h2, if_neg h7, if_neg h45]
    clear h2 h7 h45 arg
    go_enter Tryd.func19, Tryd.ntmps19
    go_wp2_with fail
    go_ret
    exact ⟨ret_b HB.out.symm, bself w _⟩
end Go.Proofs.YtfhpnkmhppfeiaaDoor
