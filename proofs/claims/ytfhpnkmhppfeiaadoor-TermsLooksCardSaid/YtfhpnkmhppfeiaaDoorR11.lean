/- The reference: Equal. -/
import Derived.Test.YtfhpnkmhppfeiaaDoorG2
import Derived.Test.YtfhpnkmhppfeiaaDoorPlain5
set_option linter.unusedVariables false
set_option linter.unusedSimpArgs false
namespace Go.Proofs.YtfhpnkmhppfeiaaDoor
open Go.RowKit Go.Proofs
set_option maxRecDepth 100000 in
set_option maxHeartbeats 1000000 in
theorem Equal_any : ∀ (N : Nat) (a b : Tm) (va vb : Value) (w : World), size a ≤ N → TR w Any a va → TR w Any b vb →
    Calls Tryd.prog 21 #[va, vb] w fun e w' => e = .returned (.bool (eqT a b)) ∧ Below w.heap.size w w' := by
  intro N
  induction N with
  | zero => intro a b va vb w h; have := size_pos a; omega
  | succ N ih =>
    rintro ⟨k, n, args⟩ ⟨k', n', args'⟩ va vb w hN hA hB
    obtain ⟨s, rfl, hk, hn, hS⟩ := hA.inv
    obtain ⟨A, c, rfl, hc1, hc2⟩ := hS.form
    obtain ⟨s', rfl, hk', hn', hS'⟩ := hB.inv
    obtain ⟨A', c', rfl, hc1', hc2'⟩ := hS'.form
    have HS := Lib.hid hS
    have HS' := Lib.hid hS'
    have HN := Lib.hid hN
    clear hS hS' hN hA hB
    by_cases h1 : k = k'
    rotate_left
    · have e1 : (k != k') = true := by simp [h1]
      have HF : Hid (false = eqT (.mk k n args) (.mk k' n' args')) := by unfold Hid; rw [eqT, decide_eq_false h1]; rfl
      clear h1
      go_enter Tryd.func21, Tryd.ntmps21
      go_wp2_with fail
      go_ret
      exact ⟨ret_b HF.out, balloc (bself w _) _⟩
    subst h1
    by_cases h2 : n = n'
    rotate_left
    · have e1 : (n != n') = true := by simp [h2]
      have HF : Hid (false = eqT (.mk k n args) (.mk k n' args')) := by unfold Hid; rw [eqT, decide_eq_false h2]; simp
      clear h2
      go_enter Tryd.func21, Tryd.ntmps21
      go_wp2_with fail
      go_ret
      exact ⟨ret_b HF.out, balloc (bself w _) _⟩
    subst h2
    by_cases h3 : args.length = args'.length
    rotate_left
    · have e1 : ((args.length : Int) != (args'.length : Int)) = true := by rw [bne_iff_ne]; omega
      have HF : Hid (false = eqT (.mk k n args) (.mk k n args')) := by
        unfold Hid
        rw [eqT]
        cases h : eqL args args' with
        | false => simp
        | true => exact absurd (eqL_len h) h3
      clear h3
      go_enter Tryd.func21, Tryd.ntmps21
      go_wp2_with fail
      go_ret
      exact ⟨ret_b HF.out, balloc (bself w _) _⟩
    have HF : Hid (eqT (.mk k n args) (.mk k n args') = eqL args args') := by unfold Hid; rw [eqT]; simp
    have HL := Lib.hid h3
    rw [← h3] at hc1'
    obtain ⟨W2, hW2⟩ : ∃ W2 : World, W2 = (w.alloc (.cells #[.int .i64 k, .int .i64 n, .slice A args.length c] 25)).alloc (.cells #[.int .i64 k, .int .i64 n, .slice A' args.length c'] 25) := ⟨_, rfl⟩
    have HB2 : Hid (Below w.heap.size w W2) := by rw [hW2]; exact balloc (bself w _) _
    have HA2 : Hid (W2.heap[w.heap.size]? = some (.cells #[.int .i64 k, .int .i64 n, .slice A args.length c] 25 (0, 0))) := by
      rw [hW2]; unfold Hid; rw [Below.heap_alloc _ _ _ (by simp)]; exact heap_alloc_new _ _
    have HC2 : Hid (W2.heap[w.heap.size + 1]? = some (.cells #[.int .i64 k, .int .i64 n, .slice A' args.length c'] 25 (0, 0))) := by
      rw [hW2]; unfold Hid; have := heap_alloc_new (w.alloc (.cells #[.int .i64 k, .int .i64 n, .slice A args.length c] 25)) (.cells #[.int .i64 k, .int .i64 n, .slice A' args.length c'] 25); simpa using this
    have HS2 : Hid (W2.heap.size = w.heap.size + 1 + 1) := by rw [hW2]; unfold Hid; simp
    rw [← h3]
    rw [← h3] at HS'
    clear h3
    go_enter Tryd.func21, Tryd.ntmps21
    go_wp2_with fail
    rw [← hW2]
    clear hW2
    go_loopw [5] (fun i wr => ∃ (j : Nat), i = .int .i64 j ∧ j ≤ args.length ∧ Hid (eqL args args' = eqL (args.drop j) (args'.drop j)) ∧ Hid (Below W2.heap.size W2 wr)) (fun i _ => args.length - (intOf i).toNat)
    case atStart => exact ⟨0, rfl, Nat.zero_le _, rfl, Below.refl _ _⟩
    case round =>
      obtain ⟨j, rfl, hj, HE, HB⟩ := hrel
      have HA9 := Lib.hid ((HB.out.block w.heap.size (by have := HS2.out; omega)).trans HA2.out)
      have HC9 := Lib.hid ((HB.out.block (w.heap.size + 1) (by have := HS2.out; omega)).trans HC2.out)
      have hwr := Lib.hid (show w.heap.size + 2 ≤ wr.heap.size by have := HB.out.size; have := HS2.out; omega)
      have qz2 := (blk_cell HA9.out 2).trans rfl
      by_cases hlt : j < args.length
      · have HLT := Lib.hid hlt
        obtain ⟨a, ha⟩ : ∃ a, args[j]? = some a := ⟨_, List.getElem?_eq_getElem hlt⟩
        obtain ⟨b, hb⟩ : ∃ b, args'[j]? = some b := ⟨_, List.getElem?_eq_getElem (by rw [← HL.out]; exact hlt)⟩
        obtain ⟨ba, oa, A2, ca, rfl, _, hba, c0, c1, c2, hTa⟩ := HS.out.at_ ha
        obtain ⟨bb, ob, A3, cb, rfl, _, hbb, d0, d1, d2, hTb⟩ := HS'.out.at_ hb
        have HBW := Lib.hid (bthen HB2.out HB.out)
        have l0 : ∀ x : Later wr.heap.size wr, x.w.cell? ⟨w.heap.size, 2, none⟩ = some (.slice (some ⟨ba, oa, none⟩) args.length c) := fun x => x.cell ((blk_cell HA9.out 2).trans rfl) (by have := hwr.out; simp; omega)
        have l1 : ∀ x : Later wr.heap.size wr, x.w.cell? ⟨w.heap.size + 1, 2, none⟩ = some (.slice (some ⟨bb, ob, none⟩) args.length c') := fun x => x.cell ((blk_cell HC9.out 2).trans rfl) (by have := hwr.out; simp; omega)
        have wb := fun (g : Nat) (h : g < w.heap.size) => show g < wr.heap.size by have := hwr.out; omega
        have a0 : ∀ x : Later wr.heap.size wr, x.w.cell? ⟨ba, oa + j * 3, none⟩ = some (.int .i64 a.k) := fun x => x.cell ((HBW.out.cell (p := ⟨ba, oa + j * 3, none⟩) hba).trans c0) (wb _ hba)
        have a1 : ∀ x : Later wr.heap.size wr, x.w.cell? ⟨ba, oa + j * 3 + 1, none⟩ = some (.int .i64 a.n) := fun x => x.cell ((HBW.out.cell (p := ⟨ba, oa + j * 3 + 1, none⟩) hba).trans c1) (wb _ hba)
        have a2 : ∀ x : Later wr.heap.size wr, x.w.cell? ⟨ba, oa + j * 3 + 2, none⟩ = some (.slice A2 a.args.length ca) := fun x => x.cell ((HBW.out.cell (p := ⟨ba, oa + j * 3 + 2, none⟩) hba).trans c2) (wb _ hba)
        have b0 : ∀ x : Later wr.heap.size wr, x.w.cell? ⟨bb, ob + j * 3, none⟩ = some (.int .i64 b.k) := fun x => x.cell ((HBW.out.cell (p := ⟨bb, ob + j * 3, none⟩) hbb).trans d0) (wb _ hbb)
        have b1 : ∀ x : Later wr.heap.size wr, x.w.cell? ⟨bb, ob + j * 3 + 1, none⟩ = some (.int .i64 b.n) := fun x => x.cell ((HBW.out.cell (p := ⟨bb, ob + j * 3 + 1, none⟩) hbb).trans d1) (wb _ hbb)
        have b2 : ∀ x : Later wr.heap.size wr, x.w.cell? ⟨bb, ob + j * 3 + 2, none⟩ = some (.slice A3 b.args.length cb) := fun x => x.cell ((HBW.out.cell (p := ⟨bb, ob + j * 3 + 2, none⟩) hbb).trans d2) (wb _ hbb)
        have hic : Hid (∀ x : Later wr.heap.size wr, Calls Tryd.prog 21 #[.agg #[.int .i64 a.k, .int .i64 a.n, .slice A2 a.args.length ca], .agg #[.int .i64 b.k, .int .i64 b.n, .slice A3 b.args.length cb]] x.w fun e w' => e = .returned (.bool (eqT a b)) ∧ Below x.w.heap.size x.w w') := fun x =>
          ih a b _ _ x.w (by have := size_at (k := k) (n := n) ha; have := HN.out; omega) ((hTa.bel HBW.out).bel x.2) ((hTb.bel HBW.out).bel x.2)
        have HD := Lib.hid (eqL_drop ha hb)
        clear ha hb c0 c1 c2 d0 d1 d2 hTa hTb wb
        obtain ⟨y, hy⟩ : ∃ y, y = eqT a b := ⟨_, rfl⟩
        rw [← hy] at hic HD
        clear hy
        go_wp2_with fail
        refine wp_region_later wr.heap.size (by kernel_rfl) ?_
        repeat (first | go_big_quiet_step ((go_at_call 21; exact later_call (hic.out _) (Nat.le_refl _))) | quiet_step ((go_at_call 21; exact later_call (hic.out _) (Nat.le_refl _))))
        refine wpQuiet_nil (later_all ?_)
        intro wx hx
        have HX := Lib.hid hx
        clear hx l0 l1 a0 a1 a2 b0 b1 b2
        cases y with
        | true =>
          go_wp2_with fail
          go_roundw
          case rel => exact ⟨j + 1, by go_num, by omega, by unfold Hid; rw [HE.out, HD.out]; rfl, bthen HB.out HX.out⟩
          case measure => simp [intOf]; omega
        | false =>
          go_wp2_with fail
          go_ret
          exact ⟨ret_b (by rw [HF.out, HE.out, HD.out]; rfl), bthen HBW.out HX.out⟩
      · obtain rfl : j = args.length := by omega
        go_wp2_with fail
        go_ret
        exact ⟨ret_b (by rw [HF.out, HE.out, List.drop_length, HL.out, List.drop_length]; rfl), bthen HB2.out HB.out⟩
end Go.Proofs.YtfhpnkmhppfeiaaDoor
