/- The reference: made. -/
import Derived.Test.YtfhpnkmhppfeiaaDoorS2
import Derived.Test.YtfhpnkmhppfeiaaDoorR15
set_option linter.unusedVariables false
set_option linter.unusedSimpArgs false
namespace Go.Proofs.YtfhpnkmhppfeiaaDoor
open Go.RowKit Go.Proofs
theorem set3 {w : World} {g : Nat} {o0 o1 o2 : Value} {t : TypeId} (h : w.heap[g]? = some (.cells #[o0, o1, o2] t (0, 0))) (a b c : Value) :
    (((w.setCell ⟨g, 0, none⟩ a).setCell ⟨g, 1, none⟩ b).setCell ⟨g, 2, none⟩ c).heap.size = w.heap.size ∧
    ((((w.setCell ⟨g, 0, none⟩ a).setCell ⟨g, 1, none⟩ b).setCell ⟨g, 2, none⟩ c).os = w.os ∧ (((w.setCell ⟨g, 0, none⟩ a).setCell ⟨g, 1, none⟩ b).setCell ⟨g, 2, none⟩ c).tape = w.tape ∧ (((w.setCell ⟨g, 0, none⟩ a).setCell ⟨g, 1, none⟩ b).setCell ⟨g, 2, none⟩ c).output = w.output) ∧
    (∀ k, k ≠ g → (((w.setCell ⟨g, 0, none⟩ a).setCell ⟨g, 1, none⟩ b).setCell ⟨g, 2, none⟩ c).heap[k]? = w.heap[k]?) ∧
    (((w.setCell ⟨g, 0, none⟩ a).setCell ⟨g, 1, none⟩ b).setCell ⟨g, 2, none⟩ c).heap[g]? = some (.cells #[a, b, c] t (0, 0)) := by
  refine ⟨by simp [World.setCell], ⟨rfl, rfl, rfl⟩, fun k hk => ?_, (blk_set (blk_set (blk_set h 0 a) 1 b) 2 c).trans (by simp)⟩
  rw [Below.heap_setCell _ _ _ _ (by simpa using hk), Below.heap_setCell _ _ _ _ (by simpa using hk), Below.heap_setCell _ _ _ _ (by simpa using hk)]
theorem len2 {l : List Tm} (h : l.length = 2) : ∃ a b, l = [a, b] := by
  match l, h with
  | [a, b], _ => exact ⟨a, b, rfl⟩
theorem canB_in {L : List Tm} (hL : ∀ x ∈ L, form x = true) {t : Tm} (hf : form t = true) (h : inS t L = true) : canB L t = true := by
  obtain ⟨k, n, args⟩ := t
  rw [canB, ← inS_hasT hL hf, h]; rfl
theorem canB_out {L : List Tm} (hL : ∀ x ∈ L, form x = true) {k n : Int} {args : List Tm} (hf : form (.mk k n args) = true) (h : inS (.mk k n args) L = false) (h1 : k ≠ 1) :
    canB L (.mk k n args) = if k = 8 then shar L (canL L args) args else decide (k ≠ 2) && !(canL L args).contains false := by
  rw [canB, ← inS_hasT hL hf, h]; simp [h1]
set_option maxRecDepth 100000 in
set_option maxHeartbeats 3000000 in
theorem made_any (L : List Tm) (hL : ∀ x ∈ L, form x = true) : ∀ (N : Nat) (t : Tm) (v vl : Value) (w : World), size t ≤ N → form t = true → TR w Any t v → TS w Any L vl →
    Calls Tryd.prog 46 #[v, vl] w fun e w' => e = .returned (.bool (canB L t)) ∧ Below w.heap.size w w' := by
  intro N
  induction N with
  | zero => intro t v vl w h; have := size_pos t; omega
  | succ N ih =>
    rintro ⟨k, n, args⟩ v vl w hN hf hT hTL
    obtain ⟨s, rfl, hk, hn, hS⟩ := hT.inv
    obtain ⟨A, c, rfl, hc1, hc2⟩ := hS.form
    obtain ⟨AL, cL, rfl, hl1, hl2⟩ := hTL.form
    have HIN : Hid (∀ w1, Below w.heap.size w w1 → Calls Tryd.prog 45 #[.agg #[.int .i64 k, .int .i64 n, .slice A args.length c], .slice AL L.length cL] w1 fun e w' => e = .returned (.bool (inS (.mk k n args) L)) ∧ Below w1.heap.size w1 w') := fun w1 hb =>
      in_any _ L _ _ w1 (hT.bel hb) (hTL.bel hb)
    have HF := Lib.hid hf
    have HS := Lib.hid hS
    have HN := Lib.hid hN
    have HTL := Lib.hid hTL
    have HLF := Lib.hid hL
    have hl3 : args.length = arity k := (headOK_iff.1 (form_head HF.out).1).2.1
    have hkk : 1 ≤ k ∧ k ≤ 9 := by have := (headOK_iff.1 (form_head HF.out).1).1; simpa [isKind] using this
    have HL3 := Lib.hid hl3
    have HKK := Lib.hid hkk
    clear hf hS hN hT hTL hl3 hkk
    obtain ⟨y, hy⟩ : ∃ y, y = inS (.mk k n args) L := ⟨_, rfl⟩
    rw [← hy] at HIN
    have HY := Lib.hid hy
    clear hy
    obtain ⟨W2, hW2⟩ : ∃ W2 : World, W2 = w.alloc (.cells #[.int .i64 k, .int .i64 n, .slice A args.length c] 25) := ⟨_, rfl⟩
    have HB2 : Hid (Below w.heap.size w W2) := by rw [hW2]; exact bself _ _
    have HA2 : Hid (W2.heap[w.heap.size]? = some (.cells #[.int .i64 k, .int .i64 n, .slice A args.length c] 25 (0, 0))) := by rw [hW2]; exact heap_alloc_new _ _
    have HS2 : Hid (W2.heap.size = w.heap.size + 1) := by rw [hW2]; unfold Hid; simp
    have HW2 := Lib.hid hW2
    clear hW2
    have HBA : Hid (Below w.heap.size w (w.alloc (.cells #[.int .i64 k, .int .i64 n, .slice A args.length c] 25))) := bself _ _
    by_cases h1 : k = 1
    · have h1' : (k == 1) = true := by simpa using h1
      have H1 := Lib.hid h1
      clear h1
      go_enter Tryd.func46, Tryd.ntmps46
      go_wp2_with fail
      go_ret
      refine ⟨ret_b ?_, bself _ _⟩
      symm
      rw [canB, H1.out]; simp
    · have h1' : (k == 1) = false := by simpa using h1
      have H1 := Lib.hid h1
      clear h1
      cases y with
      | true =>
        go_enter Tryd.func46, Tryd.ntmps46
        go_wp2_with (go_at_call 45; with_reducible refine (HIN.out _ HBA.out).mono ?_; rintro e w1 ⟨rfl, hb⟩; have HB1 : Hid (Below W2.heap.size W2 w1) := (by rw [HW2.out]; exact Lib.hid hb); clear hb; have hS1 : w.heap.size + 1 ≤ w1.heap.size := (by have := HB1.out.size; have := HS2.out; omega); have HA1 := Lib.hid ((HB1.out.block w.heap.size (by have := HS2.out; omega)).trans HA2.out); have q0 := (blk_cell HA1.out 0).trans rfl; have q1 := (blk_cell HA1.out 1).trans rfl; have q2 := (blk_cell HA1.out 2).trans rfl)
        have HBW := Lib.hid (bthen HB2.out HB1.out)
        go_ret
        exact ⟨ret_b (canB_in HLF.out HF.out HY.out.symm).symm, HBW.out⟩
      | false =>
        have HCB := Lib.hid (canB_out HLF.out HF.out HY.out.symm H1.out)
        by_cases h2 : k = 2
        · have h2' : (k == 2) = true := by simpa using h2
          have H2 := Lib.hid h2
          clear h2
          go_enter Tryd.func46, Tryd.ntmps46
          go_wp2_with (go_at_call 45; with_reducible refine (HIN.out _ HBA.out).mono ?_; rintro e w1 ⟨rfl, hb⟩; have HB1 : Hid (Below W2.heap.size W2 w1) := (by rw [HW2.out]; exact Lib.hid hb); clear hb; have hS1 : w.heap.size + 1 ≤ w1.heap.size := (by have := HB1.out.size; have := HS2.out; omega); have HA1 := Lib.hid ((HB1.out.block w.heap.size (by have := HS2.out; omega)).trans HA2.out); have q0 := (blk_cell HA1.out 0).trans rfl; have q1 := (blk_cell HA1.out 1).trans rfl; have q2 := (blk_cell HA1.out 2).trans rfl)
          have HBW := Lib.hid (bthen HB2.out HB1.out)
          go_ret
          refine ⟨ret_b ?_, HBW.out⟩
          rw [HCB.out, H2.out]; simp
        · have h2' : (k == 2) = false := by simpa using h2
          have H2 := Lib.hid h2
          clear h2
          by_cases h8 : k = 8
          · have h8' : (k == 8) = true := by simpa using h8
            have H8 := Lib.hid h8
            clear h8
            have hl2 : args.length = 2 := by rw [HL3.out, H8.out]; rfl
            obtain ⟨a, b, rfl⟩ : ∃ a b, args = [a, b] := len2 hl2
            clear hl2
            simp only [List.length_cons, List.length_nil, Nat.zero_add, Nat.reduceAdd] at HIN HBA HA2 HW2 HS
            have HCS : Hid (canB L (.mk k n [a, b]) = shar L [canB L a, canB L b] [a, b]) := by unfold Hid; rw [HCB.out, if_pos H8.out]; rfl
            have hfa : form a = true := by have := (form_head HF.out).2; simp [formL] at this; exact this.1
            have hfb : form b = true := by have := (form_head HF.out).2; simp [formL] at this; exact this.2
            have HFA := Lib.hid hfa
            have HFB := Lib.hid hfb
            clear hfa hfb
            go_enter Tryd.func46, Tryd.ntmps46
            go_wp2_with (go_at_call 45; with_reducible refine (HIN.out _ HBA.out).mono ?_; rintro e w1 ⟨rfl, hb⟩; have HB1 : Hid (Below W2.heap.size W2 w1) := (by rw [HW2.out]; exact Lib.hid hb); clear hb; have hS1 : w.heap.size + 1 ≤ w1.heap.size := (by have := HB1.out.size; have := HS2.out; omega); have HA1 := Lib.hid ((HB1.out.block w.heap.size (by have := HS2.out; omega)).trans HA2.out); have q0 := (blk_cell HA1.out 0).trans rfl; have q1 := (blk_cell HA1.out 1).trans rfl; have q2 := (blk_cell HA1.out 2).trans rfl)
            have HBW := Lib.hid (bthen HB2.out HB1.out)
            obtain ⟨ba, oa, A0, c0, rfl, _, hba, a0, a1, a2, hTa⟩ := HS.out.at_ (j := 0) (t := a) rfl
            obtain ⟨bb, ob, A1, c1, eb, _, _, b0, b1, b2, hTb⟩ := HS.out.at_ (j := 1) (t := b) rfl
            cases eb
            have D0 := Lib.hid ((HBW.out.cell (p := ⟨ba, oa, none⟩) hba).trans (by simpa using a0))
            have D1 := Lib.hid ((HBW.out.cell (p := ⟨ba, oa + 1, none⟩) hba).trans (by simpa using a1))
            have D2 := Lib.hid ((HBW.out.cell (p := ⟨ba, oa + 2, none⟩) hba).trans (by simpa using a2))
            have E0 := Lib.hid ((HBW.out.cell (p := ⟨ba, oa + 3, none⟩) hba).trans (by simpa using b0))
            have E1 := Lib.hid ((HBW.out.cell (p := ⟨ba, oa + 3 + 1, none⟩) hba).trans (by simpa using b1))
            have E2 := Lib.hid ((HBW.out.cell (p := ⟨ba, oa + 3 + 2, none⟩) hba).trans (by simpa using b2))
            have HLT := Lib.hid (show ba < w1.heap.size by omega)
            have HTA := Lib.hid hTa
            have HTB := Lib.hid hTb
            clear a0 a1 a2 b0 b1 b2 hTa hTb
            refine wp_region_inv 11 (J6 w1 [.pointer (some ⟨w.heap.size, 2, none⟩), .slice (some ⟨ba, oa, none⟩) 2 c, .pointer (some ⟨ba, oa, none⟩), .agg #[.int .i64 a.k, .int .i64 a.n, .slice A0 a.args.length c0], .pointer (some ⟨w.heap.size, 2, none⟩), .slice (some ⟨ba, oa, none⟩) 2 c, .pointer (some ⟨ba, oa + 3, none⟩), .agg #[.int .i64 b.k, .int .i64 b.n, .slice A1 b.args.length c1]] #[.int .i64 a.k, .int .i64 a.n, .slice A0 a.args.length c0])
              [[], [0], [1], [2], [], [4], [5], [6], [], [], [3, 8, 9]] (by kernel_rfl) (by kernel_rfl) (by kernel_rfl) (fun _ => J6.start) ?_ ?_
            · intro vals
              simp only [List.take_succ_cons, List.take_zero, StepsJ, List.headD_cons, List.tail_cons, List.forall_mem_cons, List.not_mem_nil, false_implies, implies_true, and_true, Act.put, List.setIfInBounds_toArray, List.set_cons_zero, List.set_cons_succ, Nat.zero_add, Nat.reduceAdd]
              refine ⟨?_, ?_, ?_, ?_, ?_, ?_, ?_, ?_, ?_, ?_, ?_⟩
              · rintro M wq hJ hM _
                go_wp2_with fail
                exact ⟨_, rfl, trivial, hJ.quiet 0 (by omega) rfl⟩
              · rintro M wq hJ hM hp
                have x := hJ.val 0 (by omega) hp
                simp only [List.getD_cons_zero, List.getD_cons_succ] at x
                rw [x]
                have q := (hJ.bel.cell (p := ⟨w.heap.size, 2, none⟩) (show w.heap.size < w1.heap.size by omega)).trans ((blk_cell HA1.out 2).trans rfl)
                go_wp2_with fail
                exact ⟨_, rfl, trivial, hJ.quiet 1 (by omega) rfl⟩
              · rintro M wq hJ hM hp
                have x := hJ.val 1 (by omega) hp
                simp only [List.getD_cons_zero, List.getD_cons_succ] at x
                rw [x]
                go_wp2_with fail
                exact ⟨_, rfl, trivial, hJ.quiet 2 (by omega) rfl⟩
              · rintro M wq hJ hM hp
                have x := hJ.val 2 (by omega) hp
                simp only [List.getD_cons_zero, List.getD_cons_succ] at x
                rw [x]
                have r0 := (hJ.bel.cell (p := ⟨ba, oa, none⟩) HLT.out).trans D0.out
                have r1 := (hJ.bel.cell (p := ⟨ba, oa + 1, none⟩) HLT.out).trans D1.out
                have r2 := (hJ.bel.cell (p := ⟨ba, oa + 2, none⟩) HLT.out).trans D2.out
                go_wp2_with fail
                exact ⟨_, rfl, trivial, hJ.quiet 3 (by omega) rfl⟩
              · rintro M wq hJ hM _
                go_wp2_with fail
                exact ⟨_, rfl, trivial, hJ.quiet 4 (by omega) rfl⟩
              · rintro M wq hJ hM hp
                have x := hJ.val 4 (by omega) hp
                simp only [List.getD_cons_zero, List.getD_cons_succ] at x
                rw [x]
                have q := (hJ.bel.cell (p := ⟨w.heap.size, 2, none⟩) (show w.heap.size < w1.heap.size by omega)).trans ((blk_cell HA1.out 2).trans rfl)
                go_wp2_with fail
                exact ⟨_, rfl, trivial, hJ.quiet 5 (by omega) rfl⟩
              · rintro M wq hJ hM hp
                have x := hJ.val 5 (by omega) hp
                simp only [List.getD_cons_zero, List.getD_cons_succ] at x
                rw [x]
                go_wp2_with fail
                exact ⟨_, rfl, trivial, hJ.quiet 6 (by omega) rfl⟩
              · rintro M wq hJ hM hp
                have x := hJ.val 6 (by omega) hp
                simp only [List.getD_cons_zero, List.getD_cons_succ] at x
                rw [x]
                have r0 := (hJ.bel.cell (p := ⟨ba, oa + 3, none⟩) HLT.out).trans E0.out
                have r1 := (hJ.bel.cell (p := ⟨ba, oa + 3 + 1, none⟩) HLT.out).trans E1.out
                have r2 := (hJ.bel.cell (p := ⟨ba, oa + 3 + 2, none⟩) HLT.out).trans E2.out
                go_wp2_with fail
                exact ⟨_, rfl, trivial, hJ.quiet 7 (by omega) rfl⟩
              · rintro M wq hJ hM _
                have HJ := Lib.hid hJ
                clear hJ
                go_wp2_with fail
                exact ⟨_, rfl, trivial, HJ.out.al1 hM⟩
              · rintro M wq hJ hM _
                have HJ := Lib.hid hJ
                clear hJ
                go_wp2_with fail
                exact ⟨_, rfl, trivial, HJ.out.al2 hM⟩
              · rintro M wq hJ hM ⟨h3, hh8, hh9⟩
                have x := hJ.val 3 (by omega) h3
                simp only [List.getD_cons_zero, List.getD_cons_succ] at x
                obtain ⟨e8, e8b, e8c⟩ := hJ.one hh8
                have hm10 : ¬ M 10 = true := by rw [hM]; decide
                rw [if_neg hm10] at e8c
                unfold z3 at e8c
                generalize hg : blk (vals 8) = g at e8 e8b e8c
                rw [x, e8]
                have HJ := Lib.hid hJ
                have HG := Lib.hid e8c
                have q0 := (blk_cell e8c 0).trans rfl
                have q1 := (blk_cell e8c 1).trans rfl
                have q2 := (blk_cell e8c 2).trans rfl
                have f0 := blk_free e8c 0
                have f1 := blk_free e8c 1
                have f2 := blk_free e8c 2
                have HGB := Lib.hid hg
                clear hJ e8c hg e8 x
                go_wp2_with fail
                obtain ⟨p1, p2, p3, p4⟩ := set3 HG.out (.int .i64 a.k) (.int .i64 a.n) (.slice A0 a.args.length c0)
                exact ⟨undef, rfl, trivial, HJ.out.st hh8 hh9 p1 p2 (by rw [HGB.out]; exact p3) (by rw [HGB.out]; exact p4) _⟩
            · intro vals w2 hJ
              have x : ∀ j, j < 8 → vals j = _ := fun j hj => hJ.val j hj (by simp; omega)
              have x0 := x 0 (by omega)
              have x1 := x 1 (by omega)
              have x2 := x 2 (by omega)
              have x3 := x 3 (by omega)
              have x4 := x 4 (by omega)
              have x5 := x 5 (by omega)
              have x6 := x 6 (by omega)
              have x7 := x 7 (by omega)
              simp only [List.getD_cons_zero, List.getD_cons_succ] at x0 x1 x2 x3 x4 x5 x6 x7
              obtain ⟨e8, e8b, e8c⟩ := hJ.one rfl
              obtain ⟨e9, e9b, e9c⟩ := hJ.two rfl
              have hne := hJ.ne rfl rfl
              have hb2 := hJ.bel
              simp only [show decide (10 < 11) = true from rfl, if_true] at e8c
              unfold z3 at e9c
              clear x hJ
              generalize blk (vals 8) = g5 at e8 e8b e8c hne
              generalize blk (vals 9) = g6 at e9 e9b e9c hne
              simp only [List.take_succ_cons, List.take_zero, List.drop_succ_cons, List.drop_zero, List.drop_nil, lexA, Act.put, List.setIfInBounds_toArray, List.set_cons_zero, List.set_cons_succ, Nat.zero_add, Nat.reduceAdd, x0, x1, x2, x3, x4, x5, x6, x7, e8, e9]
              clear x0 x1 x2 x3 x4 x5 x6 x7 e8 e9
              have q0 := (blk_cell e9c 0).trans rfl
              have q1 := (blk_cell e9c 1).trans rfl
              have q2 := (blk_cell e9c 2).trans rfl
              have f0 := blk_free e9c 0
              have f1 := blk_free e9c 1
              have f2 := blk_free e9c 2
              obtain ⟨p1, p2, p3, p4⟩ := set3 e9c (.int .i64 b.k) (.int .i64 b.n) (.slice A1 b.args.length c1)
              obtain ⟨w3, hw3⟩ : ∃ w3, w3 = ((w2.setCell ⟨g6, 0, none⟩ (.int .i64 b.k)).setCell ⟨g6, 1, none⟩ (.int .i64 b.n)).setCell ⟨g6, 2, none⟩ (.slice A1 b.args.length c1) := ⟨_, rfl⟩
              rw [← hw3] at p1 p2 p3 p4
              have HB3 : Hid (Below w1.heap.size w1 w3) := ⟨p2.1.trans hb2.os, p2.2.1.trans hb2.tape, p2.2.2.trans hb2.output, by rw [p1]; exact hb2.size, fun i hi => (p3 i (by omega)).trans (hb2.block i hi)⟩
              have HG5 := Lib.hid ((p3 g5 hne).trans e8c)
              have HG6 := Lib.hid p4
              have HA3 := Lib.hid ((HB3.out.block w.heap.size (by omega)).trans HA1.out)
              have HTL3 := Lib.hid (HTL.out.bel (bthen HBW.out HB3.out))
              have HNE := Lib.hid hne
              have HWS := Lib.hid (show w1.heap.size ≤ g5 ∧ w1.heap.size ≤ g6 from ⟨e8b, e9b⟩)
              clear p1 p2 p3 p4 e8c e9c hb2 hne
              go_wp2_with fail
              rw [← hw3]
              clear hw3 q0 q1 q2 f0 f1 f2
              refine wp_region_inv 9 (J7 w3 #[.int .i64 a.k, .int .i64 a.n, .slice A0 a.args.length c0] #[.int .i64 b.k, .int .i64 b.n, .slice A1 b.args.length c1])
                [[], [0], [1], [], [3], [4], [], [], [2, 6]] (by kernel_rfl) (by kernel_rfl) (by kernel_rfl) (fun _ => J7.start) ?_ ?_
              · intro vals
                simp only [List.take_succ_cons, List.take_zero, StepsJ, List.headD_cons, List.tail_cons, List.forall_mem_cons, List.not_mem_nil, false_implies, implies_true, and_true, Act.put, List.setIfInBounds_toArray, List.set_cons_zero, List.set_cons_succ, Nat.zero_add, Nat.reduceAdd]
                refine ⟨?_, ?_, ?_, ?_, ?_, ?_, ?_, ?_, ?_⟩
                · rintro M wq hJ hM _
                  have hg := Grew.grow_heap hJ.bel HG5.out
                  have r0 := (blk_cell hg 0).trans rfl
                  have r1 := (blk_cell hg 1).trans rfl
                  have r2 := (blk_cell hg 2).trans rfl
                  have HJ := Lib.hid hJ
                  clear hJ hg
                  go_wp2_with fail
                  exact ⟨_, rfl, trivial, HJ.out.q0 hM⟩
                · rintro M wq hJ hM hp
                  have x := hJ.v0 hp
                  have HJ := Lib.hid hJ
                  clear hJ
                  rw [x]
                  go_wp2_with fail
                  exact ⟨_, rfl, trivial, HJ.out.s1 hM⟩
                · rintro M wq hJ hM hp
                  obtain ⟨x, _, _⟩ := hJ.e1 hp
                  have h := Lib.hid (hJ.q2 hp)
                  clear hJ
                  generalize blk (vals 1) = n1 at x
                  rw [x] at h ⊢
                  go_wp2_with fail
                  exact ⟨_, rfl, trivial, h.out⟩
                · rintro M wq hJ hM _
                  have hg := Grew.grow_heap hJ.bel HG6.out
                  have r0 := (blk_cell hg 0).trans rfl
                  have r1 := (blk_cell hg 1).trans rfl
                  have r2 := (blk_cell hg 2).trans rfl
                  have HJ := Lib.hid hJ
                  clear hJ hg
                  go_wp2_with fail
                  exact ⟨_, rfl, trivial, HJ.out.q3 hM⟩
                · rintro M wq hJ hM hp
                  have x := hJ.v3 hp
                  have HJ := Lib.hid hJ
                  clear hJ
                  rw [x]
                  go_wp2_with fail
                  exact ⟨_, rfl, trivial, HJ.out.s4 hM⟩
                · rintro M wq hJ hM hp
                  obtain ⟨x, _, _⟩ := hJ.e4 hp
                  have h := Lib.hid (hJ.q5 hp)
                  clear hJ
                  generalize blk (vals 4) = n1 at x
                  rw [x] at h ⊢
                  go_wp2_with fail
                  exact ⟨_, rfl, trivial, h.out⟩
                · rintro M wq hJ hM _
                  have HJ := Lib.hid hJ
                  clear hJ
                  go_wp2_with fail
                  exact ⟨_, rfl, trivial, HJ.out.a6 hM⟩
                · rintro M wq hJ hM _
                  have HJ := Lib.hid hJ
                  clear hJ
                  go_wp2_with fail
                  exact ⟨_, rfl, trivial, HJ.out.a7 hM⟩
                · rintro M wq hJ hM ⟨h2, h6⟩
                  obtain ⟨h1, y2⟩ := hJ.e2 h2
                  obtain ⟨e1, _, _⟩ := hJ.e1 h1
                  obtain ⟨e6, e6b, e6c⟩ := hJ.e6 h6
                  have hm8 : ¬ M 8 = true := by rw [hM]; decide
                  rw [if_neg hm8] at e6c
                  unfold z3 at e6c
                  have HST := Lib.hid (fun w' => hJ.st (w' := w') h6 h1)
                  rw [y2, e6]
                  rw [e1] at HST ⊢
                  generalize blk (vals 6) = g7 at e6 e6b e6c HST
                  generalize blk (vals 1) = n1 at e1 HST
                  have HG := Lib.hid e6c
                  have q0 := (blk_cell e6c 0).trans rfl
                  have q1 := (blk_cell e6c 1).trans rfl
                  have q2 := (blk_cell e6c 2).trans rfl
                  have f0 := blk_free e6c 0
                  have f1 := blk_free e6c 1
                  have f2 := blk_free e6c 2
                  clear hJ e6c e6 e1 y2
                  go_wp2_with fail
                  obtain ⟨p1, p2, p3, p4⟩ := set3 HG.out (.int .i64 3) (.int .i64 0) (.slice (some ⟨n1, 0, none⟩) 1 1)
                  exact ⟨undef, rfl, trivial, HST.out _ p1 p2 p3 p4 _⟩
              · intro vals w4 hJ
                obtain ⟨_, y2⟩ := hJ.e2 rfl
                obtain ⟨_, y5⟩ := hJ.e5 rfl
                have x0 := hJ.v0 rfl
                have x3 := hJ.v3 rfl
                obtain ⟨x1, x1b, x1c⟩ := hJ.e1 rfl
                obtain ⟨x4, x4b, x4c⟩ := hJ.e4 rfl
                obtain ⟨x6, x6b, x6c⟩ := hJ.e6 rfl
                obtain ⟨x7, x7b, x7c⟩ := hJ.e7 rfl
                have n67 := hJ.d67 rfl rfl
                have n71 := hJ.d71 rfl rfl
                have n74 := hJ.d74 rfl rfl
                have hb4 := hJ.bel
                simp only [show decide (8 < 9) = true from rfl, if_true] at x6c
                unfold z3 at x7c
                clear hJ
                generalize blk (vals 1) = n1 at x1 x1b x1c n71
                generalize blk (vals 4) = n4 at x4 x4b x4c n74
                generalize blk (vals 6) = g7 at x6 x6b x6c n67
                generalize blk (vals 7) = g8 at x7 x7b x7c n67 n71 n74
                rw [x1] at y2 x6c
                rw [x4] at y5
                simp only [List.take_succ_cons, List.take_zero, List.drop_succ_cons, List.drop_zero, List.drop_nil, lexA, Act.put, List.setIfInBounds_toArray, List.set_cons_zero, List.set_cons_succ, Nat.zero_add, Nat.reduceAdd, x0, x1, y2, x3, x4, y5, x6, x7]
                clear x0 x1 y2 x3 x4 y5 x6 x7
                have q0 := (blk_cell x7c 0).trans rfl
                have q1 := (blk_cell x7c 1).trans rfl
                have q2 := (blk_cell x7c 2).trans rfl
                have f0 := blk_free x7c 0
                have f1 := blk_free x7c 1
                have f2 := blk_free x7c 2
                obtain ⟨p1, p2, p3, p4⟩ := set3 x7c (.int .i64 3) (.int .i64 0) (.slice (some ⟨n4, 0, none⟩) 1 1)
                obtain ⟨w5, hw5⟩ : ∃ w5, w5 = ((w4.setCell ⟨g8, 0, none⟩ (.int .i64 3)).setCell ⟨g8, 1, none⟩ (.int .i64 0)).setCell ⟨g8, 2, none⟩ (.slice (some ⟨n4, 0, none⟩) 1 1) := ⟨_, rfl⟩
                rw [← hw5] at p1 p2 p3 p4
                have HB5 : Hid (Below w3.heap.size w3 w5) := ⟨p2.1.trans hb4.os, p2.2.1.trans hb4.tape, p2.2.2.trans hb4.output, by rw [p1]; exact hb4.size, fun i hi => (p3 i (by omega)).trans (hb4.block i hi)⟩
                have hBW5 := bthen HBW.out (bthen HB3.out HB5.out)
                have HP5 := Lib.hid (Grew.grow_heap HB5.out HG5.out)
                have HP6 := Lib.hid (Grew.grow_heap HB5.out HG6.out)
                have HP7 := Lib.hid ((p3 g7 n67).trans x6c)
                have HP8 := Lib.hid p4
                have HPA : Hid (TR w5 Any (.mk 3 0 [a]) (.agg #[.int .i64 3, .int .i64 0, .slice (some ⟨n1, 0, none⟩) 1 1])) := TR.of (by unfold i64; omega) (by unfold i64; omega) (ts_one ((p3 n1 (Ne.symm n71)).trans x1c) (HTA.out.bel hBW5))
                have HPB : Hid (TR w5 Any (.mk 3 0 [b]) (.agg #[.int .i64 3, .int .i64 0, .slice (some ⟨n4, 0, none⟩) 1 1])) := TR.of (by unfold i64; omega) (by unfold i64; omega) (ts_one ((p3 n4 (Ne.symm n74)).trans x4c) (HTB.out.bel hBW5))
                have HB5W := Lib.hid hBW5
                have HTL5 := Lib.hid (HTL.out.bel hBW5)
                have HTA5 := Lib.hid (HTA.out.bel hBW5)
                have HTB5 := Lib.hid (HTB.out.bel hBW5)
                clear p1 p2 p3 p4 x1c x4c x6c x7c hb4 n67 n71 n74 hBW5
                have HPUB := Lib.hid (fun z (hz : form z = true) => show hasT L (pubT z) = inS (.mk 3 0 [z]) L from by rw [pubT_eq, inS_hasT HLF.out (by rw [form_one (.inl rfl)]; exact hz)])
                have HCE : Hid (canB L (.mk k n [a, b]) = ((canB L a && (canB L b || inS (.mk 3 0 [b]) L)) || (canB L b && inS (.mk 3 0 [a]) L))) := by
                  unfold Hid; rw [HCS.out, shar, HPUB.out a HFA.out, HPUB.out b HFB.out]
                have HIA : Hid (∀ w6, Below w5.heap.size w5 w6 → Calls Tryd.prog 45 #[.agg #[.int .i64 3, .int .i64 0, .slice (some ⟨n1, 0, none⟩) 1 1], .slice AL L.length cL] w6 fun e w' => e = .returned (.bool (inS (.mk 3 0 [a]) L)) ∧ Below w6.heap.size w6 w') := fun w6 hb =>
                  in_any _ L _ _ w6 (HPA.out.bel hb) (HTL5.out.bel hb)
                have HIB : Hid (∀ w6, Below w5.heap.size w5 w6 → Calls Tryd.prog 45 #[.agg #[.int .i64 3, .int .i64 0, .slice (some ⟨n4, 0, none⟩) 1 1], .slice AL L.length cL] w6 fun e w' => e = .returned (.bool (inS (.mk 3 0 [b]) L)) ∧ Below w6.heap.size w6 w') := fun w6 hb =>
                  in_any _ L _ _ w6 (HPB.out.bel hb) (HTL5.out.bel hb)
                have hma : Hid (∀ x : Later w5.heap.size w5, Calls Tryd.prog 46 #[.agg #[.int .i64 a.k, .int .i64 a.n, .slice A0 a.args.length c0], .slice AL L.length cL] x.w fun e w' => e = .returned (.bool (canB L a)) ∧ Below x.w.heap.size x.w w') := fun x =>
                  ih a _ _ x.w (by have := size_at (k := k) (n := n) (args := [a, b]) (j := 0) (a := a) rfl; have := HN.out; omega) HFA.out (HTA5.out.bel x.2) (HTL5.out.bel x.2)
                have hmb : Hid (∀ x : Later w5.heap.size w5, Calls Tryd.prog 46 #[.agg #[.int .i64 b.k, .int .i64 b.n, .slice A1 b.args.length c1], .slice AL L.length cL] x.w fun e w' => e = .returned (.bool (canB L b)) ∧ Below x.w.heap.size x.w w') := fun x =>
                  ih b _ _ x.w (by have := size_at (k := k) (n := n) (args := [a, b]) (j := 1) (a := b) rfl; have := HN.out; omega) HFB.out (HTB5.out.bel x.2) (HTL5.out.bel x.2)
                generalize hya : canB L a = ya at hma HCE
                generalize hyb : canB L b = yb at hmb HCE
                generalize hpa : inS (.mk 3 0 [a]) L = pa at HIA HCE
                generalize hpb : inS (.mk 3 0 [b]) L = pb at HIB HCE
                clear hya hyb hpa hpb HPUB
                have l0 : ∀ x : Later w5.heap.size w5, x.w.cell? ⟨g5, 0, none⟩ = some (.int .i64 a.k) := fun x => x.cell ((blk_cell HP5.out 0).trans rfl) (heap_lt HP5.out)
                have l1 : ∀ x : Later w5.heap.size w5, x.w.cell? ⟨g5, 1, none⟩ = some (.int .i64 a.n) := fun x => x.cell ((blk_cell HP5.out 1).trans rfl) (heap_lt HP5.out)
                have l2 : ∀ x : Later w5.heap.size w5, x.w.cell? ⟨g5, 2, none⟩ = some (.slice A0 a.args.length c0) := fun x => x.cell ((blk_cell HP5.out 2).trans rfl) (heap_lt HP5.out)
                have m0 : ∀ x : Later w5.heap.size w5, x.w.cell? ⟨g6, 0, none⟩ = some (.int .i64 b.k) := fun x => x.cell ((blk_cell HP6.out 0).trans rfl) (heap_lt HP6.out)
                have m1 : ∀ x : Later w5.heap.size w5, x.w.cell? ⟨g6, 1, none⟩ = some (.int .i64 b.n) := fun x => x.cell ((blk_cell HP6.out 1).trans rfl) (heap_lt HP6.out)
                have m2 : ∀ x : Later w5.heap.size w5, x.w.cell? ⟨g6, 2, none⟩ = some (.slice A1 b.args.length c1) := fun x => x.cell ((blk_cell HP6.out 2).trans rfl) (heap_lt HP6.out)
                go_wp2_with fail
                rw [← hw5]
                clear hw5 q0 q1 q2 f0 f1 f2
                refine wp_region_later w5.heap.size (by kernel_rfl) ?_
                repeat (first | go_big_quiet_step ((go_at_call 46; first | (with_reducible exact later_call (hma.out _) (Nat.le_refl _)) | (with_reducible exact later_call (hmb.out _) (Nat.le_refl _)))) | quiet_step ((go_at_call 46; first | (with_reducible exact later_call (hma.out _) (Nat.le_refl _)) | (with_reducible exact later_call (hmb.out _) (Nat.le_refl _)))))
                refine wpQuiet_nil (later_all ?_)
                intro wx hx
                have HX := Lib.hid hx
                have HXW := Lib.hid (bthen HB5W.out hx)
                have H7 := Lib.hid (Grew.grow_heap hx HP7.out)
                have H8X := Lib.hid (Grew.grow_heap hx HP8.out)
                clear hx l0 l1 l2 m0 m1 m2
                have r0 := (blk_cell H7.out 0).trans rfl
                have r1 := (blk_cell H7.out 1).trans rfl
                have r2 := (blk_cell H7.out 2).trans rfl
                have u0 := (blk_cell H8X.out 0).trans rfl
                have u1 := (blk_cell H8X.out 1).trans rfl
                have u2 := (blk_cell H8X.out 2).trans rfl
                cases ya with
                | true =>
                  cases yb with
                  | true =>
                    go_wp2_with fail
                    go_ret
                    exact ⟨ret_b (by rw [HCE.out]; rfl), HXW.out⟩
                  | false =>
                    cases pb with
                    | true =>
                      go_wp2_with (go_at_call 45; with_reducible refine (HIB.out _ HX.out).mono ?_; rintro e w6 ⟨rfl, hb⟩; have HB6 := Lib.hid hb; clear hb)
                      go_ret
                      exact ⟨ret_b (by rw [HCE.out]; rfl), bthen HXW.out HB6.out⟩
                    | false =>
                      go_wp2_with (go_at_call 45; with_reducible refine (HIB.out _ HX.out).mono ?_; rintro e w6 ⟨rfl, hb⟩; have HB6 := Lib.hid hb; clear hb)
                      go_ret
                      exact ⟨ret_b (by rw [HCE.out]; rfl), bthen HXW.out HB6.out⟩
                | false =>
                  cases yb with
                  | true =>
                    cases pa with
                    | true =>
                      go_wp2_with (go_at_call 45; with_reducible refine (HIA.out _ HX.out).mono ?_; rintro e w6 ⟨rfl, hb⟩; have HB6 := Lib.hid hb; clear hb)
                      go_ret
                      exact ⟨ret_b (by rw [HCE.out]; rfl), bthen HXW.out HB6.out⟩
                    | false =>
                      go_wp2_with (go_at_call 45; with_reducible refine (HIA.out _ HX.out).mono ?_; rintro e w6 ⟨rfl, hb⟩; have HB6 := Lib.hid hb; clear hb)
                      go_ret
                      exact ⟨ret_b (by rw [HCE.out]; rfl), bthen HXW.out HB6.out⟩
                  | false =>
                    go_wp2_with fail
                    go_ret
                    exact ⟨ret_b (by rw [HCE.out]; rfl), HXW.out⟩
          · have h8' : (k == 8) = false := by simpa using h8
            have H8 := Lib.hid h8
            clear h8
            have HCE : Hid (canB L (.mk k n args) = !(canL L args).contains false) := by unfold Hid; rw [HCB.out, if_neg H8.out]; simp [H2.out]
            have HFM := Lib.hid (fun a (h : a ∈ args) => form_mem HF.out h)
            go_enter Tryd.func46, Tryd.ntmps46
            go_wp2_with (go_at_call 45; with_reducible refine (HIN.out _ HBA.out).mono ?_; rintro e w1 ⟨rfl, hb⟩; have HB1 : Hid (Below W2.heap.size W2 w1) := (by rw [HW2.out]; exact Lib.hid hb); clear hb; have hS1 : w.heap.size + 1 ≤ w1.heap.size := (by have := HB1.out.size; have := HS2.out; omega); have HA1 := Lib.hid ((HB1.out.block w.heap.size (by have := HS2.out; omega)).trans HA2.out); have q0 := (blk_cell HA1.out 0).trans rfl; have q1 := (blk_cell HA1.out 1).trans rfl; have q2 := (blk_cell HA1.out 2).trans rfl)
            have HBW := Lib.hid (bthen HB2.out HB1.out)
            clear q0 q1 q2
            go_loopw [11] (fun i wr => ∃ (j : Nat), i = .int .i64 j ∧ j ≤ args.length ∧ Hid (∀ i x, i < j → args[i]? = some x → canB L x = true) ∧ Hid (Below w1.heap.size w1 wr)) (fun i _ => args.length - (intOf i).toNat)
            case atStart => exact ⟨0, rfl, Nat.zero_le _, fun i x h => absurd h (Nat.not_lt_zero _), Below.refl _ _⟩
            case round =>
              obtain ⟨j, rfl, hj, HNO, HB⟩ := hrel
              have HA9 := Lib.hid ((HB.out.block w.heap.size (by omega)).trans HA1.out)
              have qz2 := (blk_cell HA9.out 2).trans rfl
              by_cases hlt : j < args.length
              · obtain ⟨a, ha⟩ : ∃ a, args[j]? = some a := ⟨_, List.getElem?_eq_getElem hlt⟩
                obtain ⟨ba, oa, A2, ca, rfl, _, hba, c0, c1, c2, hTa⟩ := HS.out.at_ ha
                have HBR := Lib.hid (bthen HBW.out HB.out)
                have a0 := (HBR.out.cell (p := ⟨ba, oa + j * 3, none⟩) hba).trans c0
                have a1 := (HBR.out.cell (p := ⟨ba, oa + j * 3 + 1, none⟩) hba).trans c1
                have a2 := (HBR.out.cell (p := ⟨ba, oa + j * 3 + 2, none⟩) hba).trans c2
                have hma : Hid (Calls Tryd.prog 46 #[.agg #[.int .i64 a.k, .int .i64 a.n, .slice A2 a.args.length ca], .slice AL L.length cL] wr fun e w' => e = .returned (.bool (canB L a)) ∧ Below wr.heap.size wr w') :=
                  ih a _ _ wr (by have := size_at (k := k) (n := n) ha; have := HN.out; omega) (HFM.out a (List.mem_of_getElem? ha)) (hTa.bel HBR.out) (HTL.out.bel HBR.out)
                have HAA := Lib.hid ha
                clear ha c0 c1 c2 hTa
                obtain ⟨y, hy⟩ : ∃ y, y = canB L a := ⟨_, rfl⟩
                rw [← hy] at hma
                have HYA := Lib.hid hy
                clear hy
                cases y with
                | true =>
                  go_wp2_with (go_at_call 46; with_reducible refine hma.out.mono ?_; rintro e w6 ⟨rfl, hb⟩; have HB6 := Lib.hid hb; clear hb)
                  go_roundw
                  case rel =>
                    refine ⟨j + 1, by go_num, by omega, fun i x hi hx => ?_, bthen HB.out HB6.out⟩
                    rcases Nat.lt_succ_iff_lt_or_eq.1 hi with h | rfl
                    · exact HNO.out i x h hx
                    · rw [HAA.out] at hx; cases hx; exact HYA.out.symm
                  case measure => simp [intOf]; omega
                | false =>
                  go_wp2_with (go_at_call 46; with_reducible refine hma.out.mono ?_; rintro e w6 ⟨rfl, hb⟩; have HB6 := Lib.hid hb; clear hb)
                  go_ret
                  refine ⟨ret_b ?_, bthen HBR.out HB6.out⟩
                  rw [HCE.out]
                  symm
                  rw [Bool.not_eq_false', List.contains_iff_mem, canL_map]
                  exact List.mem_map.2 ⟨a, List.mem_of_getElem? HAA.out, HYA.out.symm⟩
              · obtain rfl : j = args.length := by omega
                go_wp2_with fail
                go_ret
                refine ⟨ret_b ?_, bthen HBW.out HB.out⟩
                rw [HCE.out]
                symm
                rw [Bool.not_eq_true', Bool.eq_false_iff]
                intro h
                rw [List.contains_iff_mem, canL_map] at h
                obtain ⟨x, hx, e⟩ := List.mem_map.1 h
                obtain ⟨i, hi⟩ := List.getElem?_of_mem hx
                rw [HNO.out i x (List.getElem?_eq_some_iff.1 hi).1 hi] at e; cases e
end Go.Proofs.YtfhpnkmhppfeiaaDoor
