/- The reference: Size. The reference: args, names, Much. The reference: form, May. -/
import Derived.Test.YtfhpnkmhppfeiaaDoorG2
/- The reference: Size. -/
set_option linter.unusedVariables false
set_option linter.unusedSimpArgs false
namespace Go.Proofs.YtfhpnkmhppfeiaaDoor
open Go.RowKit Go.Proofs
/-- How many terms there are in one, up to a bound. -/
def sizeM (t : Tm) (most : Nat) : Nat := min (size t) (most + 1)
theorem sizeL_take {args : List Tm} {j : Nat} {a : Tm} (h : args[j]? = some a) : sizeL (args.take (j + 1)) = sizeL (args.take j) + size a := by
  rw [List.take_add_one, h]; simp [sizeL_append, sizeL]
theorem sizeL_take_le (args : List Tm) (j : Nat) : sizeL (args.take j) ≤ sizeL args := by
  have := sizeL_append (args.take j) (args.drop j)
  rw [List.take_append_drop] at this
  omega
set_option maxRecDepth 100000 in
set_option maxHeartbeats 1000000 in
theorem Size_any : ∀ (N : Nat) (t : Tm) (v : Value) (most : Nat) (w : World), size t ≤ N → most ≤ 1000000 → TR w Any t v →
    Calls Tryd.prog 14 #[v, .int .i64 most] w fun e w' => e = .returned (.int .i64 (sizeM t most : Nat)) ∧ Below w.heap.size w w' := by
  intro N
  induction N with
  | zero => intro t v most w h; have := size_pos t; omega
  | succ N ih =>
    rintro ⟨k, n, args⟩ v most w hN hm hT
    obtain ⟨s, rfl, hk, hn, hS⟩ := hT.inv
    obtain ⟨A, c, rfl, hc1, hc2⟩ := hS.form
    have HS := Lib.hid hS
    have HN := Lib.hid hN
    clear hS hN hT
    go_enter Tryd.func14, Tryd.ntmps14
    go_wp2_with fail
    obtain ⟨W0, hW0⟩ : ∃ W0, W0 = w.alloc (.cells #[.int .i64 k, .int .i64 n, .slice A args.length c] 25) := ⟨_, rfl⟩
    rw [← hW0]
    have HB0 : Hid (Below w.heap.size w W0) := by rw [hW0]; exact bself _ _
    have HA0 : Hid (W0.heap[w.heap.size]? = some (.cells #[.int .i64 k, .int .i64 n, .slice A args.length c] 25 (0, 0))) := by rw [hW0]; exact heap_alloc_new _ _
    clear hW0
    go_loopw [5, 6] (fun x i wr => ∃ (j m : Nat), i = .int .i64 j ∧ x = .int .i64 m ∧ j ≤ args.length ∧ m ≤ 1000001 ∧ Hid (m = min (1 + sizeL (args.take j)) (most + 1)) ∧ Hid (Below W0.heap.size W0 wr)) (fun _ i _ => args.length - (intOf i).toNat)
    case atStart => exact ⟨0, 1, rfl, rfl, Nat.zero_le _, by omega, by unfold Hid; simp [sizeL], Below.refl _ _⟩
    case round =>
      obtain ⟨j, m, rfl, rfl, hj, hm1, HX, HB⟩ := hrel
      obtain ⟨q0, q1, q2, _, _, _⟩ := cell3_load ((HB.out.block _ (Array.getElem?_eq_some_iff.1 HA0.out).1).trans HA0.out)
      by_cases hlt : j < args.length ∧ m ≤ most
      · obtain ⟨hlt, hle⟩ := hlt
        obtain ⟨a, ha⟩ : ∃ a, args[j]? = some a := ⟨_, List.getElem?_eq_getElem hlt⟩
        obtain ⟨b, o, A2, cc, rfl, _, hbs, c0, c1, c2, hTa⟩ := HS.out.at_ ha
        have HBW : Hid (Below w.heap.size w wr) := bthen HB0.out HB.out
        have d0 := (HBW.out.cell (p := ⟨b, o + j * 3, none⟩) hbs).trans c0
        have d1 := (HBW.out.cell (p := ⟨b, o + j * 3 + 1, none⟩) hbs).trans c1
        have d2 := (HBW.out.cell (p := ⟨b, o + j * 3 + 2, none⟩) hbs).trans c2
        have HAA := Lib.hid ha
        have hic := ih a _ (most - m) wr (by have := size_at (k := k) (n := n) HAA.out; have := HN.out; omega) (by omega) (hTa.bel HBW.out)
        have ec : (((most - m : Nat) : Int)) = (most : Int) - (m : Int) := by omega
        rw [ec] at hic
        have hsm : sizeM a (most - m) ≤ most - m + 1 := Nat.min_le_right _ _
        have HE : Hid (m + sizeM a (most - m) = min (1 + sizeL (args.take (j + 1))) (most + 1)) := by
          unfold Hid
          rw [sizeL_take HAA.out]
          have := HX.out
          unfold sizeM
          omega
        clear ha c0 c1 c2 hTa ec
        go_wp2_with (go_at_call 14; refine hic.mono ?_; rintro e w1 ⟨rfl, hb1⟩)
        have HB1 := Lib.hid hb1
        clear hb1
        go_roundw
        case rel => exact ⟨j + 1, m + sizeM a (most - m), by go_num, by go_num, by omega, by omega, HE.out, bthen HB.out HB1.out⟩
        case measure => simp [intOf]; omega
      · have HF : Hid (sizeM (.mk k n args) most = m) := by
          unfold Hid sizeM
          simp only [size]
          have h1 := HX.out
          have h2 := sizeL_take_le args j
          rcases Nat.lt_or_ge j args.length with h | h
          · have : ¬ m ≤ most := fun e => hlt ⟨h, e⟩
            omega
          · rw [List.take_of_length_le h] at h1
            omega
        rcases Nat.lt_or_ge j args.length with h | h
        · have h3 : ¬ m ≤ most := fun e => hlt ⟨h, e⟩
          clear hlt
          go_wp2_with fail
          go_ret
          exact ⟨by rw [HF.out]; rfl, bthen HB0.out HB.out⟩
        · obtain rfl : j = args.length := by omega
          clear hlt
          go_wp2_with fail
          go_ret
          exact ⟨by rw [HF.out]; rfl, bthen HB0.out HB.out⟩
end Go.Proofs.YtfhpnkmhppfeiaaDoor
/- The reference: args, names, Much. -/
set_option linter.unusedVariables false
set_option linter.unusedSimpArgs false
namespace Go.Proofs.YtfhpnkmhppfeiaaDoor
open Go.RowKit Go.Proofs
set_option maxRecDepth 100000 in
set_option maxHeartbeats 1000000 in
theorem args_any (k : Int) (w : World) (hk : isKind k = true) : Calls Tryd.prog 54 #[.int .i64 k] w fun e w' => e = .returned (.int .i64 (arity k : Nat)) ∧ Below w.heap.size w w' := by
  simp only [isKind, decide_eq_true_eq] at hk
  have : k = 1 ∨ k = 2 ∨ k = 3 ∨ k = 4 ∨ k = 5 ∨ k = 6 ∨ k = 7 ∨ k = 8 ∨ k = 9 := by omega
  rcases this with rfl | rfl | rfl | rfl | rfl | rfl | rfl | rfl | rfl
  all_goals go_enter Tryd.func54, Tryd.ntmps54
  all_goals go_wp2
  all_goals go_ret
  all_goals exact ⟨rfl, bself w _⟩
set_option maxRecDepth 100000 in
set_option maxHeartbeats 1000000 in
theorem names_any (w : World) : Calls Tryd.prog 47 #[] w fun e w' => e = .returned (.slice (some ⟨w.heap.size, 0, none⟩) 10 10) ∧ (∀ k : Nat, k ≤ 9 → w'.cell? ⟨w.heap.size, k, none⟩ = some (.string ⟨(kname k).toArray⟩)) ∧ Below w.heap.size w w' := by
  go_enter Tryd.func47, Tryd.ntmps47
  go_wp2
  go_ret
  refine ⟨rfl, fun k hk => ?_, bself w _⟩
  have : k = 0 ∨ k = 1 ∨ k = 2 ∨ k = 3 ∨ k = 4 ∨ k = 5 ∨ k = 6 ∨ k = 7 ∨ k = 8 ∨ k = 9 := by omega
  rcases this with rfl | rfl | rfl | rfl | rfl | rfl | rfl | rfl | rfl | rfl <;> exact (blk_cell (heap_alloc_new w _) _).trans rfl
/-- Have terms more than is gone through? -/
def sumM (l : List Tm) : Nat := (l.map (sizeM · 301)).sum
def muchS (L : List Tm) : Bool := decide (30 < L.length) || decide (300 < sumM (L.take 31))
theorem sumM_take {L : List Tm} {j : Nat} {a : Tm} (h : L[j]? = some a) : sumM (L.take (j + 1)) = sumM (L.take j) + sizeM a 301 := by
  rw [List.take_add_one, h]; simp [sumM]
theorem le_sum_mem : ∀ {l : List Nat} {x : Nat}, x ∈ l → x ≤ l.sum
  | y :: l, x, h => by
    rcases List.mem_cons.1 h with rfl | h
    · simp
    · have := le_sum_mem h; simp; omega
theorem muchS_no {L : List Tm} (h : muchS L = false) : L.length ≤ 30 ∧ ∀ t ∈ L, size t ≤ 300 := by
  simp only [muchS, Bool.or_eq_false_iff, decide_eq_false_iff_not, Nat.not_lt] at h
  refine ⟨h.1, fun t ht => ?_⟩
  have h2 := h.2
  rw [List.take_of_length_le (by omega)] at h2
  have : sizeM t 301 ≤ sumM L := le_sum_mem (List.mem_map_of_mem ht)
  unfold sizeM at this
  omega
set_option maxRecDepth 100000 in
set_option maxHeartbeats 1000000 in
theorem Much_any (L : List Tm) (v : Value) (w : World) (hT : TS w Any L v) : Calls Tryd.prog 13 #[v] w fun e w' => e = .returned (.bool (muchS L)) ∧ Below w.heap.size w w' := by
  obtain ⟨A, c, rfl, hc1, hc2⟩ := hT.form
  have HT := Lib.hid hT
  clear hT
  go_enter Tryd.func13, Tryd.ntmps13
  go_wp2_with fail
  go_loopw [3, 4] (fun x i wr => ∃ (j m : Nat), i = .int .i64 j ∧ x = .int .i64 m ∧ j ≤ L.length ∧ j ≤ 31 ∧ m ≤ j * 302 ∧ Hid (m = sumM (L.take j)) ∧ Hid (Below w.heap.size w wr)) (fun _ i _ => L.length - (intOf i).toNat)
  case atStart => exact ⟨0, 0, rfl, rfl, Nat.zero_le _, by omega, by omega, rfl, Below.refl _ _⟩
  case round =>
    obtain ⟨j, m, rfl, rfl, hj, hj31, hm1, HX, HB⟩ := hrel
    by_cases hlt : j < L.length ∧ j ≤ 30
    · obtain ⟨hlt, hle⟩ := hlt
      obtain ⟨a, ha⟩ : ∃ a, L[j]? = some a := ⟨_, List.getElem?_eq_getElem hlt⟩
      obtain ⟨b, o, A2, cc, rfl, _, hbs, c0, c1, c2, hTa⟩ := HT.out.at_ ha
      have d0 := (HB.out.cell (p := ⟨b, o + j * 3, none⟩) hbs).trans c0
      have d1 := (HB.out.cell (p := ⟨b, o + j * 3 + 1, none⟩) hbs).trans c1
      have d2 := (HB.out.cell (p := ⟨b, o + j * 3 + 2, none⟩) hbs).trans c2
      have HAA := Lib.hid ha
      have hic := Size_any _ a _ 301 wr (Nat.le_refl _) (by omega) (hTa.bel HB.out)
      have hsm : sizeM a 301 ≤ 302 := Nat.min_le_right _ _
      clear ha c0 c1 c2 hTa
      go_wp2_with (go_at_call 14; refine hic.mono ?_; rintro e w1 ⟨rfl, hb1⟩)
      have HB1 := Lib.hid hb1
      clear hb1
      go_roundw
      case rel => exact ⟨j + 1, m + sizeM a 301, by go_num, by go_num, by omega, by omega, by omega, by unfold Hid; rw [sumM_take HAA.out, HX.out], bthen HB.out HB1.out⟩
      case measure => simp [intOf]; omega
    · by_cases h : j < L.length
      · have h3 : ¬ j ≤ 30 := fun e => hlt ⟨h, e⟩
        have h4 : (L.length : Int) > 30 := by omega
        have HF : Hid (muchS L = true) := by unfold Hid muchS; rw [decide_eq_true (by omega)]; rfl
        clear hlt
        go_wp2_with fail
        go_ret
        exact ⟨by rw [HF.out]; rfl, HB.out⟩
      · obtain rfl : j = L.length := by omega
        clear hlt
        have HF : Hid (muchS L = (decide (30 < L.length) || decide (300 < m))) := by unfold Hid muchS; rw [HX.out, List.take_length, List.take_of_length_le (by omega)]
        by_cases h5 : L.length > 30
        · have h6 : (L.length : Int) > 30 := by omega
          go_wp2_with fail
          go_ret
          exact ⟨by rw [HF.out, decide_eq_true h5]; rfl, HB.out⟩
        · have h6 : ¬ (L.length : Int) > 30 := by omega
          by_cases h7 : 300 < m
          · have h8 : (m : Int) > 300 := by omega
            go_wp2_with fail
            go_ret
            exact ⟨by rw [HF.out, decide_eq_false h5, decide_eq_true h7]; rfl, HB.out⟩
          · have h8 : ¬ (m : Int) > 300 := by omega
            go_wp2_with fail
            go_ret
            exact ⟨by rw [HF.out, decide_eq_false h5, decide_eq_false h7]; rfl, HB.out⟩
end Go.Proofs.YtfhpnkmhppfeiaaDoor
/- The reference: form, May. -/
set_option linter.unusedVariables false
set_option linter.unusedSimpArgs false
namespace Go.Proofs.YtfhpnkmhppfeiaaDoor
open Go.RowKit Go.Proofs
theorem formL_take {args : List Tm} {j : Nat} {a : Tm} (h : args[j]? = some a) : formL (args.drop j) = (form a && formL (args.drop (j + 1))) := by
  have hl := (List.getElem?_eq_some_iff.1 h).1
  rw [List.drop_eq_getElem_cons hl]
  have : args[j] = a := by rw [List.getElem?_eq_getElem hl] at h; exact Option.some.inj h
  rw [this]; rfl
set_option maxRecDepth 100000 in
set_option maxHeartbeats 2000000 in
theorem form_any : ∀ (N : Nat) (t : Tm) (v : Value) (w : World), size t ≤ N → TR w Any t v →
    Calls Tryd.prog 36 #[v] w fun e w' => e = .returned (.bool (form t)) ∧ Below w.heap.size w w' := by
  intro N
  induction N with
  | zero => intro t v w h; have := size_pos t; omega
  | succ N ih =>
    rintro ⟨k, n, args⟩ v w hN hT
    obtain ⟨s, rfl, hk, hn, hS⟩ := hT.inv
    obtain ⟨A, c, rfl, hc1, hc2⟩ := hS.form
    have HS := Lib.hid hS
    have HN := Lib.hid hN
    clear hS hN hT
    obtain ⟨W0, hW0⟩ : ∃ W0, W0 = w.alloc (.cells #[.int .i64 k, .int .i64 n, .slice A args.length c] 25) := ⟨_, rfl⟩
    have HB0 : Hid (Below w.heap.size w W0) := by rw [hW0]; exact bself _ _
    have HA0 : Hid (W0.heap[w.heap.size]? = some (.cells #[.int .i64 k, .int .i64 n, .slice A args.length c] 25 (0, 0))) := by rw [hW0]; exact heap_alloc_new _ _
    have hsz : w.heap.size + 1 = W0.heap.size := by rw [hW0]; simp
    obtain ⟨q0, q1, q2, _, _, _⟩ := cell3_load HA0.out
    have l0 : ∀ x : Later W0.heap.size W0, x.w.cell? ⟨w.heap.size, 0, none⟩ = some (.int .i64 k) := fun x => x.cell q0 (by simp; omega)
    have l1 : ∀ x : Later W0.heap.size W0, x.w.cell? ⟨w.heap.size, 1, none⟩ = some (.int .i64 n) := fun x => x.cell q1 (by simp; omega)
    have l2 : ∀ x : Later W0.heap.size W0, x.w.cell? ⟨w.heap.size, 2, none⟩ = some (.slice A args.length c) := fun x => x.cell q2 (by simp; omega)
    clear q0 q1 q2 hsz
    have no : ∀ {b : Bool}, headOK k n args.length = false → b = false → b = form (.mk k n args) := fun h hb => by rw [form, h, hb]; rfl
    by_cases h1 : k < 1
    · have HF : Hid (false = form (.mk k n args)) := by unfold Hid; rw [form]; unfold headOK isKind; simp; omega
      have HAR : Hid (∀ x : Later W0.heap.size W0, Calls Tryd.prog 54 #[.int .i64 1] x.w fun e w' => e = .returned (.int .i64 (arity 1 : Nat)) ∧ Below x.w.heap.size x.w w') := fun x => args_any 1 x.w rfl
      go_enter Tryd.func36, Tryd.ntmps36
      go_wp2_with fail
      rw [← hW0]
      clear hW0
      refine wp_region_later W0.heap.size (by kernel_rfl) ?_
      repeat (first | go_big_quiet_step ((go_at_call 54; with_reducible exact later_call (HAR.out _) (Nat.le_refl _))) | quiet_step ((go_at_call 54; with_reducible exact later_call (HAR.out _) (Nat.le_refl _))))
      refine wpQuiet_nil (later_all ?_)
      intro wx hx
      have HX := Lib.hid hx
      clear hx l0 l1 l2
      go_wp2_with fail
      go_ret
      exact ⟨ret_b (HF.out), bthen HB0.out HX.out⟩
    by_cases h2 : k > 9
    · have HF : Hid (false = form (.mk k n args)) := by unfold Hid; rw [form]; unfold headOK isKind; simp; omega
      have HAR : Hid (∀ x : Later W0.heap.size W0, Calls Tryd.prog 54 #[.int .i64 1] x.w fun e w' => e = .returned (.int .i64 (arity 1 : Nat)) ∧ Below x.w.heap.size x.w w') := fun x => args_any 1 x.w rfl
      go_enter Tryd.func36, Tryd.ntmps36
      go_wp2_with fail
      rw [← hW0]
      clear hW0
      refine wp_region_later W0.heap.size (by kernel_rfl) ?_
      repeat (first | go_big_quiet_step ((go_at_call 54; with_reducible exact later_call (HAR.out _) (Nat.le_refl _))) | quiet_step ((go_at_call 54; with_reducible exact later_call (HAR.out _) (Nat.le_refl _))))
      refine wpQuiet_nil (later_all ?_)
      intro wx hx
      have HX := Lib.hid hx
      clear hx l0 l1 l2
      go_wp2_with fail
      go_ret
      exact ⟨ret_b (HF.out), bthen HB0.out HX.out⟩
    have hke : isKind k = true := by simp [isKind]; omega
    by_cases h3 : args.length = arity k
    · have e3 : ((args.length : Int) != ((arity k : Nat) : Int)) = false := by rw [h3]; simp
      have hz : (arity k == 0) = decide (k ≤ 2) := by
        unfold arity
        repeat' split
        all_goals first | (rw [decide_eq_true (by omega)]; rfl) | (rw [decide_eq_false (by omega)]; rfl)
      by_cases h4 : n < 0
      · have HAR : Hid (∀ x : Later W0.heap.size W0, Calls Tryd.prog 54 #[.int .i64 k] x.w fun e w' => e = .returned (.int .i64 (arity k : Nat)) ∧ Below x.w.heap.size x.w w') := fun x => args_any k x.w (by simp [isKind]; omega)
        have HF : Hid (false = form (.mk k n args)) := by unfold Hid; rw [form]; unfold headOK; rw [decide_eq_false (show ¬ 0 ≤ n by omega)]; simp
        clear h3 hz hke
        go_enter Tryd.func36, Tryd.ntmps36
        go_wp2_with fail
        rw [← hW0]
        clear hW0
        refine wp_region_later W0.heap.size (by kernel_rfl) ?_
        repeat (first | go_big_quiet_step ((go_at_call 54; with_reducible exact later_call (HAR.out _) (Nat.le_refl _))) | quiet_step ((go_at_call 54; with_reducible exact later_call (HAR.out _) (Nat.le_refl _))))
        refine wpQuiet_nil (later_all ?_)
        intro wx hx
        have HX := Lib.hid hx
        clear hx l0 l1 l2
        go_wp2_with fail
        go_ret
        exact ⟨ret_b (HF.out), bthen HB0.out HX.out⟩
      by_cases h5 : n > 0
      · by_cases h6 : k > 2
        · have HAR : Hid (∀ x : Later W0.heap.size W0, Calls Tryd.prog 54 #[.int .i64 k] x.w fun e w' => e = .returned (.int .i64 (arity k : Nat)) ∧ Below x.w.heap.size x.w w') := fun x => args_any k x.w (by simp [isKind]; omega)
          have HF : Hid (false = form (.mk k n args)) := by unfold Hid; rw [form]; unfold headOK; rw [hz, decide_eq_false (show ¬ k ≤ 2 by omega), decide_eq_false (show ¬ n = 0 by omega)]; simp
          clear h3 hz hke
          go_enter Tryd.func36, Tryd.ntmps36
          go_wp2_with fail
          rw [← hW0]
          clear hW0
          refine wp_region_later W0.heap.size (by kernel_rfl) ?_
          repeat (first | go_big_quiet_step ((go_at_call 54; with_reducible exact later_call (HAR.out _) (Nat.le_refl _))) | quiet_step ((go_at_call 54; with_reducible exact later_call (HAR.out _) (Nat.le_refl _))))
          refine wpQuiet_nil (later_all ?_)
          intro wx hx
          have HX := Lib.hid hx
          clear hx l0 l1 l2
          go_wp2_with fail
          go_ret
          exact ⟨ret_b (HF.out), bthen HB0.out HX.out⟩
        · have HAR : Hid (∀ x : Later W0.heap.size W0, Calls Tryd.prog 54 #[.int .i64 k] x.w fun e w' => e = .returned (.int .i64 (arity k : Nat)) ∧ Below x.w.heap.size x.w w') := fun x => args_any k x.w (by simp [isKind]; omega)
          have HH : Hid (headOK k n args.length = true) := by unfold Hid headOK; rw [hke, h3, hz, decide_eq_true (show k ≤ 2 by omega), decide_eq_true (show 0 ≤ n by omega)]; simp
          clear h3 hz hke
          go_enter Tryd.func36, Tryd.ntmps36
          go_wp2_with fail
          rw [← hW0]
          clear hW0
          refine wp_region_later W0.heap.size (by kernel_rfl) ?_
          repeat (first | go_big_quiet_step ((go_at_call 54; with_reducible exact later_call (HAR.out _) (Nat.le_refl _))) | quiet_step ((go_at_call 54; with_reducible exact later_call (HAR.out _) (Nat.le_refl _))))
          refine wpQuiet_nil (later_all ?_)
          intro wx hx
          have HX := Lib.hid hx
          clear hx l0 l1 l2
          go_wp2_with fail
          obtain ⟨q0, q1, q2, _, _, _⟩ := cell3_load ((HX.out.block _ (Array.getElem?_eq_some_iff.1 HA0.out).1).trans HA0.out)
          clear q0 q1 q2
          go_loopw [3] (fun i wr => ∃ (j : Nat), i = .int .i64 j ∧ j ≤ args.length ∧ Hid (formL (args.drop j) = form (.mk k n args)) ∧ Hid (Below W0.heap.size W0 wr)) (fun i _ => args.length - (intOf i).toNat)
          case atStart => exact ⟨0, rfl, Nat.zero_le _, by unfold Hid; rw [form, HH.out]; rfl, HX.out⟩
          case round =>
            obtain ⟨j, rfl, hj, HFL, HB⟩ := hrel
            obtain ⟨q0, q1, q2, _, _, _⟩ := cell3_load ((HB.out.block _ (Array.getElem?_eq_some_iff.1 HA0.out).1).trans HA0.out)
            by_cases hlt : j < args.length
            · obtain ⟨a, ha⟩ : ∃ a, args[j]? = some a := ⟨_, List.getElem?_eq_getElem hlt⟩
              obtain ⟨b, o, A2, cc, rfl, _, hbs, c0, c1, c2, hTa⟩ := HS.out.at_ ha
              have HBW : Hid (Below w.heap.size w wr) := bthen HB0.out HB.out
              have d0 := (HBW.out.cell (p := ⟨b, o + j * 3, none⟩) hbs).trans c0
              have d1 := (HBW.out.cell (p := ⟨b, o + j * 3 + 1, none⟩) hbs).trans c1
              have d2 := (HBW.out.cell (p := ⟨b, o + j * 3 + 2, none⟩) hbs).trans c2
              have HAA := Lib.hid ha
              have hic := ih a _ wr (by have := size_at (k := k) (n := n) HAA.out; have := HN.out; omega) (hTa.bel HBW.out)
              clear ha c0 c1 c2 hTa
              cases hfa : form a with
              | true =>
                rw [hfa] at hic
                have HFA := Lib.hid hfa
                clear hfa
                go_wp2_with (go_at_call 36; refine hic.mono ?_; rintro e w1 ⟨rfl, hb1⟩)
                have HB1 := Lib.hid hb1
                clear hb1
                go_roundw
                case rel => exact ⟨j + 1, by go_num, by omega, by unfold Hid; rw [← HFL.out, formL_take HAA.out, HFA.out]; rfl, bthen HB.out HB1.out⟩
                case measure => simp [intOf]; omega
              | false =>
                rw [hfa] at hic
                have HFA := Lib.hid hfa
                clear hfa
                go_wp2_with (go_at_call 36; refine hic.mono ?_; rintro e w1 ⟨rfl, hb1⟩)
                go_ret
                exact ⟨ret_b (by rw [← HFL.out, formL_take HAA.out, HFA.out]; rfl), bthen HBW.out hb1⟩
            · obtain rfl : j = args.length := by omega
              go_wp2_with fail
              go_ret
              exact ⟨ret_b (by rw [← HFL.out, List.drop_length]; rfl), bthen HB0.out HB.out⟩
      · obtain rfl : n = 0 := by omega
        have HAR : Hid (∀ x : Later W0.heap.size W0, Calls Tryd.prog 54 #[.int .i64 k] x.w fun e w' => e = .returned (.int .i64 (arity k : Nat)) ∧ Below x.w.heap.size x.w w') := fun x => args_any k x.w (by simp [isKind]; omega)
        have HH : Hid (headOK k 0 args.length = true) := by unfold Hid headOK; rw [hke, h3]; simp
        clear h3 hz hke h4 h5
        go_enter Tryd.func36, Tryd.ntmps36
        go_wp2_with fail
        rw [← hW0]
        clear hW0
        refine wp_region_later W0.heap.size (by kernel_rfl) ?_
        repeat (first | go_big_quiet_step ((go_at_call 54; with_reducible exact later_call (HAR.out _) (Nat.le_refl _))) | quiet_step ((go_at_call 54; with_reducible exact later_call (HAR.out _) (Nat.le_refl _))))
        refine wpQuiet_nil (later_all ?_)
        intro wx hx
        have HX := Lib.hid hx
        clear hx l0 l1 l2
        go_wp2_with fail
        obtain ⟨q0, q1, q2, _, _, _⟩ := cell3_load ((HX.out.block _ (Array.getElem?_eq_some_iff.1 HA0.out).1).trans HA0.out)
        clear q0 q1 q2
        go_loopw [3] (fun i wr => ∃ (j : Nat), i = .int .i64 j ∧ j ≤ args.length ∧ Hid (formL (args.drop j) = form (.mk k 0 args)) ∧ Hid (Below W0.heap.size W0 wr)) (fun i _ => args.length - (intOf i).toNat)
        case atStart => exact ⟨0, rfl, Nat.zero_le _, by unfold Hid; rw [form, HH.out]; rfl, HX.out⟩
        case round =>
          obtain ⟨j, rfl, hj, HFL, HB⟩ := hrel
          obtain ⟨q0, q1, q2, _, _, _⟩ := cell3_load ((HB.out.block _ (Array.getElem?_eq_some_iff.1 HA0.out).1).trans HA0.out)
          by_cases hlt : j < args.length
          · obtain ⟨a, ha⟩ : ∃ a, args[j]? = some a := ⟨_, List.getElem?_eq_getElem hlt⟩
            obtain ⟨b, o, A2, cc, rfl, _, hbs, c0, c1, c2, hTa⟩ := HS.out.at_ ha
            have HBW : Hid (Below w.heap.size w wr) := bthen HB0.out HB.out
            have d0 := (HBW.out.cell (p := ⟨b, o + j * 3, none⟩) hbs).trans c0
            have d1 := (HBW.out.cell (p := ⟨b, o + j * 3 + 1, none⟩) hbs).trans c1
            have d2 := (HBW.out.cell (p := ⟨b, o + j * 3 + 2, none⟩) hbs).trans c2
            have HAA := Lib.hid ha
            have hic := ih a _ wr (by have := size_at (k := k) (n := 0) HAA.out; have := HN.out; omega) (hTa.bel HBW.out)
            clear ha c0 c1 c2 hTa
            cases hfa : form a with
            | true =>
              rw [hfa] at hic
              have HFA := Lib.hid hfa
              clear hfa
              go_wp2_with (go_at_call 36; refine hic.mono ?_; rintro e w1 ⟨rfl, hb1⟩)
              have HB1 := Lib.hid hb1
              clear hb1
              go_roundw
              case rel => exact ⟨j + 1, by go_num, by omega, by unfold Hid; rw [← HFL.out, formL_take HAA.out, HFA.out]; rfl, bthen HB.out HB1.out⟩
              case measure => simp [intOf]; omega
            | false =>
              rw [hfa] at hic
              have HFA := Lib.hid hfa
              clear hfa
              go_wp2_with (go_at_call 36; refine hic.mono ?_; rintro e w1 ⟨rfl, hb1⟩)
              go_ret
              exact ⟨ret_b (by rw [← HFL.out, formL_take HAA.out, HFA.out]; rfl), bthen HBW.out hb1⟩
          · obtain rfl : j = args.length := by omega
            go_wp2_with fail
            go_ret
            exact ⟨ret_b (by rw [← HFL.out, List.drop_length]; rfl), bthen HB0.out HB.out⟩
    · have e3 : ((args.length : Int) != ((arity k : Nat) : Int)) = true := by rw [bne_iff_ne]; omega
      have HAR : Hid (∀ x : Later W0.heap.size W0, Calls Tryd.prog 54 #[.int .i64 k] x.w fun e w' => e = .returned (.int .i64 (arity k : Nat)) ∧ Below x.w.heap.size x.w w') := fun x => args_any k x.w (by simp [isKind]; omega)
      have HF : Hid (false = form (.mk k n args)) := by unfold Hid; rw [form]; unfold headOK; rw [show (args.length == arity k) = false by rw [beq_eq_false_iff_ne]; exact h3]; simp
      clear h3 hke
      go_enter Tryd.func36, Tryd.ntmps36
      go_wp2_with fail
      rw [← hW0]
      clear hW0
      refine wp_region_later W0.heap.size (by kernel_rfl) ?_
      repeat (first | go_big_quiet_step ((go_at_call 54; with_reducible exact later_call (HAR.out _) (Nat.le_refl _))) | quiet_step ((go_at_call 54; with_reducible exact later_call (HAR.out _) (Nat.le_refl _))))
      refine wpQuiet_nil (later_all ?_)
      intro wx hx
      have HX := Lib.hid hx
      clear hx l0 l1 l2
      go_wp2_with fail
      go_ret
      exact ⟨ret_b (HF.out), bthen HB0.out HX.out⟩
set_option maxRecDepth 100000 in
set_option maxHeartbeats 1000000 in
theorem rMay_any (t : Tm) (v : Value) (w : World) (hT : TR w Any t v) : Calls Tryd.prog 16 #[v] w fun e w' => e = .returned (.bool (may t)) ∧ Below w.heap.size w w' := by
  obtain ⟨A, c, rfl⟩ := hT.form3
  have HT := Lib.hid hT
  have hs := Size_any _ t _ 2000 (w.alloc (.cells #[.int .i64 t.k, .int .i64 t.n, .slice A t.args.length c] 25)) (Nat.le_refl _) (by omega) (hT.bel (bself w _))
  have HA := Lib.hid (heap_alloc_new w (.cells #[.int .i64 t.k, .int .i64 t.n, .slice A t.args.length c] 25))
  clear hT
  by_cases h : size t ≤ 2000
  · have e : ((sizeM t 2000 : Nat) : Int) ≤ 2000 := by unfold sizeM; omega
    have HM : Hid (may t = form t) := by unfold Hid may; rw [decide_eq_true h]; simp
    go_enter Tryd.func16, Tryd.ntmps16
    go_wp2_with (first
      | (go_at_call 14; refine hs.mono ?_; rintro e w2 ⟨rfl, hb⟩; have HB := Lib.hid (bthen (bself w _) hb); obtain ⟨q0, q1, q2, _, _, _⟩ := cell3_load ((hb.block w.heap.size (by simp)).trans HA.out); have hf := form_any _ t _ w2 (Nat.le_refl _) (HT.out.bel HB.out); clear hb)
      | (go_at_call 36; refine hf.mono ?_; rintro e w3 ⟨rfl, hb3⟩))
    go_ret
    exact ⟨by rw [HM.out]; rfl, bthen HB.out hb3⟩
  · have e : ¬ ((sizeM t 2000 : Nat) : Int) ≤ 2000 := by unfold sizeM; omega
    have HM : Hid (may t = false) := by unfold Hid may; rw [decide_eq_false h]; simp
    go_enter Tryd.func16, Tryd.ntmps16
    go_wp2_with (go_at_call 14; refine hs.mono ?_; rintro e w2 ⟨rfl, hb⟩)
    go_ret
    exact ⟨by rw [HM.out]; rfl, bthen (bself w _) hb⟩
end Go.Proofs.YtfhpnkmhppfeiaaDoor
