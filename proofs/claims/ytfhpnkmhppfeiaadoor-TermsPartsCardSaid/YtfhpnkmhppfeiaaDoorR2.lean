/- The reference: args, names, Much. -/
import Derived.Test.YtfhpnkmhppfeiaaDoorR1
set_option linter.unusedVariables false
set_option linter.unusedSimpArgs false
namespace Go.Proofs.YtfhpnkmhppfeiaaDoor
open Go.RowKit Go.Proofs
set_option maxRecDepth 100000 in
set_option maxHeartbeats 1000000 in
theorem args_any (k : Int) (w : World) (hk : isKind k = true) : Calls Tryd.prog 54 #[.int .i64 k] w fun e w' => e = .returned (.int .i64 (arity k : Nat)) ∧ Below w.heap.size w w' := by
  simp only [isKind, decide_eq_true_eq] at hk
  have : k = 1 ∨ k = 2 ∨ k = 3 ∨ k = 4 ∨ k = 5 ∨ k = 6 ∨ k = 7 ∨ k = 8 ∨ k = 9 := by omega
  rcases this with rfl | rfl | rfl | rfl | rfl | rfl | rfl | rfl | rfl
  all_goals go_enter Tryd.func54, Tryd.ntmps54
  all_goals go_wp2
  all_goals go_ret
  all_goals exact ⟨rfl, bself w _⟩
set_option maxRecDepth 100000 in
set_option maxHeartbeats 1000000 in
theorem names_any (w : World) : Calls Tryd.prog 47 #[] w fun e w' => e = .returned (.slice (some ⟨w.heap.size, 0, none⟩) 10 10) ∧ (∀ k : Nat, k ≤ 9 → w'.cell? ⟨w.heap.size, k, none⟩ = some (.string ⟨(kname k).toArray⟩)) ∧ Below w.heap.size w w' := by
  go_enter Tryd.func47, Tryd.ntmps47
  go_wp2
  go_ret
  refine ⟨rfl, fun k hk => ?_, bself w _⟩
  have : k = 0 ∨ k = 1 ∨ k = 2 ∨ k = 3 ∨ k = 4 ∨ k = 5 ∨ k = 6 ∨ k = 7 ∨ k = 8 ∨ k = 9 := by omega
  rcases this with rfl | rfl | rfl | rfl | rfl | rfl | rfl | rfl | rfl | rfl <;> exact (blk_cell (heap_alloc_new w _) _).trans rfl
/-- Have terms more than is gone through? -/
def sumM (l : List Tm) : Nat := (l.map (sizeM · 301)).sum
def muchS (L : List Tm) : Bool := decide (30 < L.length) || decide (300 < sumM (L.take 31))
theorem sumM_take {L : List Tm} {j : Nat} {a : Tm} (h : L[j]? = some a) : sumM (L.take (j + 1)) = sumM (L.take j) + sizeM a 301 := by
  rw [List.take_add_one, h]; simp [sumM]
theorem le_sum_mem : ∀ {l : List Nat} {x : Nat}, x ∈ l → x ≤ l.sum
  | y :: l, x, h => by
    rcases List.mem_cons.1 h with rfl | h
    · simp
    · have := le_sum_mem h; simp; omega
theorem muchS_no {L : List Tm} (h : muchS L = false) : L.length ≤ 30 ∧ ∀ t ∈ L, size t ≤ 300 := by
  simp only [muchS, Bool.or_eq_false_iff, decide_eq_false_iff_not, Nat.not_lt] at h
  refine ⟨h.1, fun t ht => ?_⟩
  have h2 := h.2
  rw [List.take_of_length_le (by omega)] at h2
  have : sizeM t 301 ≤ sumM L := le_sum_mem (List.mem_map_of_mem ht)
  unfold sizeM at this
  omega
set_option maxRecDepth 100000 in
set_option maxHeartbeats 1000000 in
theorem Much_any (L : List Tm) (v : Value) (w : World) (hT : TS w Any L v) : Calls Tryd.prog 13 #[v] w fun e w' => e = .returned (.bool (muchS L)) ∧ Below w.heap.size w w' := by
  obtain ⟨A, c, rfl, hc1, hc2⟩ := hT.form
  have HT := Lib.hid hT
  clear hT
  go_enter Tryd.func13, Tryd.ntmps13
  go_wp2_with fail
  go_loopw [3, 4] (fun x i wr => ∃ (j m : Nat), i = .int .i64 j ∧ x = .int .i64 m ∧ j ≤ L.length ∧ j ≤ 31 ∧ m ≤ j * 302 ∧ Hid (m = sumM (L.take j)) ∧ Hid (Below w.heap.size w wr)) (fun _ i _ => L.length - (intOf i).toNat)
  case atStart => exact ⟨0, 0, rfl, rfl, Nat.zero_le _, by omega, by omega, rfl, Below.refl _ _⟩
  case round =>
    obtain ⟨j, m, rfl, rfl, hj, hj31, hm1, HX, HB⟩ := hrel
    by_cases hlt : j < L.length ∧ j ≤ 30
    · obtain ⟨hlt, hle⟩ := hlt
      obtain ⟨a, ha⟩ : ∃ a, L[j]? = some a := ⟨_, List.getElem?_eq_getElem hlt⟩
      obtain ⟨b, o, A2, cc, rfl, _, hbs, c0, c1, c2, hTa⟩ := HT.out.at_ ha
      have d0 := (HB.out.cell (p := ⟨b, o + j * 3, none⟩) hbs).trans c0
      have d1 := (HB.out.cell (p := ⟨b, o + j * 3 + 1, none⟩) hbs).trans c1
      have d2 := (HB.out.cell (p := ⟨b, o + j * 3 + 2, none⟩) hbs).trans c2
      have HAA := Lib.hid ha
      have hic := Size_any _ a _ 301 wr (Nat.le_refl _) (by omega) (hTa.bel HB.out)
      have hsm : sizeM a 301 ≤ 302 := Nat.min_le_right _ _
      clear ha c0 c1 c2 hTa
      go_wp2_with (go_at_call 14; refine hic.mono ?_; rintro e w1 ⟨rfl, hb1⟩)
      have HB1 := Lib.hid hb1
      clear hb1
      go_roundw
      case rel => exact ⟨j + 1, m + sizeM a 301, by go_num, by go_num, by omega, by omega, by omega, by unfold Hid; rw [sumM_take HAA.out, HX.out], bthen HB.out HB1.out⟩
      case measure => simp [intOf]; omega
    · by_cases h : j < L.length
      · have h3 : ¬ j ≤ 30 := fun e => hlt ⟨h, e⟩
        have h4 : (L.length : Int) > 30 := by omega
        have HF : Hid (muchS L = true) := by unfold Hid muchS; rw [decide_eq_true (by omega)]; rfl
        clear hlt
        go_wp2_with fail
        go_ret
        exact ⟨by rw [HF.out]; rfl, HB.out⟩
      · obtain rfl : j = L.length := by omega
        clear hlt
        have HF : Hid (muchS L = (decide (30 < L.length) || decide (300 < m))) := by unfold Hid muchS; rw [HX.out, List.take_length, List.take_of_length_le (by omega)]
        by_cases h5 : L.length > 30
        · have h6 : (L.length : Int) > 30 := by omega
          go_wp2_with fail
          go_ret
          exact ⟨by rw [HF.out, decide_eq_true h5]; rfl, HB.out⟩
        · have h6 : ¬ (L.length : Int) > 30 := by omega
          by_cases h7 : 300 < m
          · have h8 : (m : Int) > 300 := by omega
            go_wp2_with fail
            go_ret
            exact ⟨by rw [HF.out, decide_eq_false h5, decide_eq_true h7]; rfl, HB.out⟩
          · have h8 : ¬ (m : Int) > 300 := by omega
            go_wp2_with fail
            go_ret
            exact ⟨by rw [HF.out, decide_eq_false h5, decide_eq_false h7]; rfl, HB.out⟩
end Go.Proofs.YtfhpnkmhppfeiaaDoor
