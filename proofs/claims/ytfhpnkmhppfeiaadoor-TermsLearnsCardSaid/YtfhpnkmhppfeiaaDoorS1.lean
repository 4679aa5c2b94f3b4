/- The reference: in. -/
import Derived.Test.YtfhpnkmhppfeiaaDoorR11
import Derived.Test.YtfhpnkmhppfeiaaDoorPlain3
set_option linter.unusedVariables false
set_option linter.unusedSimpArgs false
namespace Go.Proofs.YtfhpnkmhppfeiaaDoor
open Go.RowKit Go.Proofs
def inS (t : Tm) (L : List Tm) : Bool := L.any (eqT t)
theorem inS_iff {t : Tm} {L : List Tm} : inS t L = true ↔ t ∈ L := by
  simp only [inS, List.any_eq_true, eqT_iff]
  exact ⟨fun ⟨x, hx, e⟩ => e ▸ hx, fun h => ⟨t, h, rfl⟩⟩
theorem inS_hasT {ts : List Tm} (hf : ∀ t ∈ ts, form t = true) {t : Tm} (ht : form t = true) : inS t ts = hasT ts (txt t) := by
  rw [Bool.eq_iff_iff, inS_iff, hasT_iff hf ht]
set_option maxRecDepth 100000 in
set_option maxHeartbeats 1000000 in
theorem in_any (t : Tm) (L : List Tm) (v vl : Value) (w : World) (hT : TR w Any t v) (hL : TS w Any L vl) :
    Calls Tryd.prog 45 #[v, vl] w fun e w' => e = .returned (.bool (inS t L)) ∧ Below w.heap.size w w' := by
  obtain ⟨A, c, rfl⟩ := hT.form3
  obtain ⟨AL, cL, rfl, hc1, hc2⟩ := hL.form
  have HT := Lib.hid hT
  have HL := Lib.hid hL
  clear hT hL
  obtain ⟨W2, hW2⟩ : ∃ W2 : World, W2 = w.alloc (.cells #[.int .i64 t.k, .int .i64 t.n, .slice A t.args.length c] 25) := ⟨_, rfl⟩
  have HB2 : Hid (Below w.heap.size w W2) := by rw [hW2]; exact bself _ _
  have HA2 : Hid (W2.heap[w.heap.size]? = some (.cells #[.int .i64 t.k, .int .i64 t.n, .slice A t.args.length c] 25 (0, 0))) := by rw [hW2]; exact heap_alloc_new _ _
  have HS2 : Hid (W2.heap.size = w.heap.size + 1) := by rw [hW2]; unfold Hid; simp
  go_enter Tryd.func45, Tryd.ntmps45
  go_wp2_with fail
  rw [← hW2]
  clear hW2
  go_loopw [5] (fun i wr => ∃ (j : Nat), i = .int .i64 j ∧ j ≤ L.length ∧ Hid (∀ i x, i < j → L[i]? = some x → eqT t x = false) ∧ Hid (Below W2.heap.size W2 wr)) (fun i _ => L.length - (intOf i).toNat)
  case atStart => exact ⟨0, rfl, Nat.zero_le _, fun i x h => absurd h (Nat.not_lt_zero _), Below.refl _ _⟩
  case round =>
    obtain ⟨j, rfl, hj, HNO, HB⟩ := hrel
    have HA9 := Lib.hid ((HB.out.block w.heap.size (by have := HS2.out; omega)).trans HA2.out)
    have hwr := Lib.hid (show w.heap.size + 1 ≤ wr.heap.size by have := HB.out.size; have := HS2.out; omega)
    by_cases hlt : j < L.length
    · obtain ⟨a, ha⟩ : ∃ a, L[j]? = some a := ⟨_, List.getElem?_eq_getElem hlt⟩
      obtain ⟨ba, oa, A2, ca, rfl, _, hba, c0, c1, c2, hTa⟩ := HL.out.at_ ha
      have HBW := Lib.hid (bthen HB2.out HB.out)
      have l0 : ∀ x : Later wr.heap.size wr, x.w.cell? ⟨w.heap.size, 0, none⟩ = some (.int .i64 t.k) := fun x => x.cell ((blk_cell HA9.out 0).trans rfl) (by have := hwr.out; simp; omega)
      have l1 : ∀ x : Later wr.heap.size wr, x.w.cell? ⟨w.heap.size, 1, none⟩ = some (.int .i64 t.n) := fun x => x.cell ((blk_cell HA9.out 1).trans rfl) (by have := hwr.out; simp; omega)
      have l2 : ∀ x : Later wr.heap.size wr, x.w.cell? ⟨w.heap.size, 2, none⟩ = some (.slice A t.args.length c) := fun x => x.cell ((blk_cell HA9.out 2).trans rfl) (by have := hwr.out; simp; omega)
      have wb := fun (g : Nat) (h : g < w.heap.size) => show g < wr.heap.size by have := hwr.out; omega
      have a0 : ∀ x : Later wr.heap.size wr, x.w.cell? ⟨ba, oa + j * 3, none⟩ = some (.int .i64 a.k) := fun x => x.cell ((HBW.out.cell (p := ⟨ba, oa + j * 3, none⟩) hba).trans c0) (wb _ hba)
      have a1 : ∀ x : Later wr.heap.size wr, x.w.cell? ⟨ba, oa + j * 3 + 1, none⟩ = some (.int .i64 a.n) := fun x => x.cell ((HBW.out.cell (p := ⟨ba, oa + j * 3 + 1, none⟩) hba).trans c1) (wb _ hba)
      have a2 : ∀ x : Later wr.heap.size wr, x.w.cell? ⟨ba, oa + j * 3 + 2, none⟩ = some (.slice A2 a.args.length ca) := fun x => x.cell ((HBW.out.cell (p := ⟨ba, oa + j * 3 + 2, none⟩) hba).trans c2) (wb _ hba)
      have hic : Hid (∀ x : Later wr.heap.size wr, Calls Tryd.prog 21 #[.agg #[.int .i64 t.k, .int .i64 t.n, .slice A t.args.length c], .agg #[.int .i64 a.k, .int .i64 a.n, .slice A2 a.args.length ca]] x.w fun e w' => e = .returned (.bool (eqT t a)) ∧ Below x.w.heap.size x.w w') := fun x =>
        Equal_any _ t a _ _ x.w (Nat.le_refl _) ((HT.out.bel HBW.out).bel x.2) ((hTa.bel HBW.out).bel x.2)
      have HAA := Lib.hid ha
      clear ha c0 c1 c2 hTa wb
      obtain ⟨y, hy⟩ : ∃ y, y = eqT t a := ⟨_, rfl⟩
      rw [← hy] at hic
      have HY := Lib.hid hy
      clear hy
      go_wp2_with fail
      refine wp_region_later wr.heap.size (by kernel_rfl) ?_
      repeat (first | go_big_quiet_step ((go_at_call 21; exact later_call (hic.out _) (Nat.le_refl _))) | quiet_step ((go_at_call 21; exact later_call (hic.out _) (Nat.le_refl _))))
      refine wpQuiet_nil (later_all ?_)
      intro wx hx
      have HX := Lib.hid hx
      clear hx l0 l1 l2 a0 a1 a2
      cases y with
      | false =>
        go_wp2_with fail
        go_roundw
        case rel =>
          refine ⟨j + 1, by go_num, by omega, fun i x hi hx => ?_, bthen HB.out HX.out⟩
          rcases Nat.lt_succ_iff_lt_or_eq.1 hi with h | rfl
          · exact HNO.out i x h hx
          · rw [HAA.out] at hx; cases hx; exact HY.out.symm
        case measure => simp [intOf]; omega
      | true =>
        go_wp2_with fail
        go_ret
        refine ⟨ret_b ?_, bthen HBW.out HX.out⟩
        symm
        rw [inS_iff, (eqT_iff _ _).1 HY.out.symm]
        exact List.mem_of_getElem? HAA.out
    · obtain rfl : j = L.length := by omega
      go_wp2_with fail
      go_ret
      refine ⟨ret_b ?_, bthen HB2.out HB.out⟩
      symm
      rw [Bool.eq_false_iff]
      intro h
      obtain ⟨i, hi⟩ := List.getElem?_of_mem (inS_iff.1 h)
      have := HNO.out i t (List.getElem?_eq_some_iff.1 hi).1 hi
      rw [(eqT_iff t t).2 rfl] at this; cases this
end Go.Proofs.YtfhpnkmhppfeiaaDoor
