/- The law TermsKeeps, walked. -/
import Derived.Test.YtfhpnkmhppfeiaaDoorR12
import Derived.Test.YtfhpnkmhppfeiaaDoorR9
set_option linter.unusedVariables false
set_option linter.unusedSimpArgs false
namespace Go.Proofs.YtfhpnkmhppfeiaaDoor
open Go.RowKit Go.Proofs
theorem TS.none (w : World) (D : Nat → Prop) : TS w D [] (.slice none 0 0) := ⟨Option.none, 0, fun _ => undef, rfl, Nat.le_refl 0, by omega, fun h => absurd h (by simp), fun j a h => by simp at h⟩
set_option maxRecDepth 100000 in
set_option maxHeartbeats 4000000 in
theorem keeps_any (L : List Tm) (n : Int) (vl : Value) (w : World) (hT : TS w Any L vl) (hn : i64 n) (hTab : Tab w) :
    Calls Tryd.prog 4 #[vl, .int .i64 n] w fun e w' => e = .returned (.bool true) ∧ Below w.heap.size w w' := by
  obtain ⟨A, c, rfl, hc1, hc2⟩ := hT.form
  have HT := Lib.hid hT
  have HTab := Lib.hid hTab
  have HN := Lib.hid hn
  clear hT hTab hn
  have C12 : Hid (∀ w1, Below w.heap.size w w1 → Calls Tryd.prog 12 #[] w1 fun e w' => e = .returned (.bool true) ∧ Below w1.heap.size w1 w') := fun w1 hb => known_any w1 (HTab.out.bel hb)
  have C13 : Hid (∀ w1, Below w.heap.size w w1 → Calls Tryd.prog 13 #[.slice A L.length c] w1 fun e w' => e = .returned (.bool (muchS L)) ∧ Below w1.heap.size w1 w') := fun w1 hb => Much_any L _ w1 (HT.out.bel hb)
  have C15 : Hid (∀ w1, Below w.heap.size w w1 → Calls Tryd.prog 15 #[.slice A L.length c] w1 fun e w' => e = .returned (.bool (L.all may)) ∧ Below w1.heap.size w1 w') := fun w1 hb => all_any L _ w1 (HT.out.bel hb)
  have HB := Lib.hid (Below.refl w.heap.size w)
  go_enter Tryd.func4, Tryd.ntmps4
  cases h1 : muchS L with
  | true =>
    go_wp2_with (first
      | (go_at_call 12; with_reducible refine (C12.out _ HB.out).mono ?_; rintro e w1 ⟨rfl, hb⟩; have HB := Lib.hid (bthen HB.out hb); clear hb)
      | (go_at_call 13; with_reducible refine (C13.out _ HB.out).mono ?_; rintro e w1 ⟨rfl, hb⟩; have HB := Lib.hid (bthen HB.out hb); clear hb))
    go_ret
    exact ⟨rfl, HB.out⟩
  | false =>
  have HMU := Lib.hid (muchS_no h1)
  cases h4 : L.all may with
  | false =>
    go_wp2_with (first
      | (go_at_call 12; with_reducible refine (C12.out _ HB.out).mono ?_; rintro e w1 ⟨rfl, hb⟩; have HB := Lib.hid (bthen HB.out hb); clear hb)
      | (go_at_call 13; with_reducible refine (C13.out _ HB.out).mono ?_; rintro e w1 ⟨rfl, hb⟩; have HB := Lib.hid (bthen HB.out hb); clear hb)
      | (go_at_call 15; with_reducible refine (C15.out _ HB.out).mono ?_; rintro e w1 ⟨rfl, hb⟩; have HB := Lib.hid (bthen HB.out hb); clear hb))
    go_ret
    exact ⟨rfl, HB.out⟩
  | true =>
  by_cases h5 : n < 0
  · go_wp2_with (first
      | (go_at_call 12; with_reducible refine (C12.out _ HB.out).mono ?_; rintro e w1 ⟨rfl, hb⟩; have HB := Lib.hid (bthen HB.out hb); clear hb)
      | (go_at_call 13; with_reducible refine (C13.out _ HB.out).mono ?_; rintro e w1 ⟨rfl, hb⟩; have HB := Lib.hid (bthen HB.out hb); clear hb)
      | (go_at_call 15; with_reducible refine (C15.out _ HB.out).mono ?_; rintro e w1 ⟨rfl, hb⟩; have HB := Lib.hid (bthen HB.out hb); clear hb))
    go_ret
    exact ⟨rfl, HB.out⟩
  have HALL : Hid (∀ t ∈ L, may t = true) := fun t ht => by rw [List.all_eq_true] at h4; exact h4 t ht
  have hml : mayL L = true := mayL_iff.2 ⟨by have := HMU.out.1; omega, HALL.out⟩
  have hm2 : may (.mk 2 n []) = true := (may_iff _).2 ⟨by simp [form, formL, headOK, isKind, arity]; omega, by simp [size, sizeL]⟩
  clear hml hm2
  go_wp2_with (first
    | (go_at_call 12; with_reducible refine (C12.out _ HB.out).mono ?_; rintro e w1 ⟨rfl, hb⟩; have HB := Lib.hid (bthen HB.out hb); clear hb)
    | (go_at_call 13; with_reducible refine (C13.out _ HB.out).mono ?_; rintro e w1 ⟨rfl, hb⟩; have HB := Lib.hid (bthen HB.out hb); clear hb)
    | (go_at_call 15; with_reducible refine (C15.out _ HB.out).mono ?_; rintro e w1 ⟨rfl, hb⟩; have HB := Lib.hid (bthen HB.out hb); clear hb))
  clear h1 h4
  have HB3 : Hid (Below w.heap.size w (w1.alloc (.cells #[.int .i64 2, .int .i64 n, .slice none 0 0] 25))) := balloc HB.out _
  have HS3 : Hid ((w1.alloc (.cells #[.int .i64 2, .int .i64 n, .slice none 0 0] 25)).heap[w1.heap.size]? = some (.cells #[.int .i64 2, .int .i64 n, .slice none 0 0] 25 (0, 0))) := heap_alloc_new _ _
  go_loopw [6] (fun i wr => ∃ (j : Nat), i = .int .i64 j ∧ j ≤ L.length ∧ Hid (Below w.heap.size w wr) ∧ Hid (wr.heap[w1.heap.size]? = some (.cells #[.int .i64 2, .int .i64 n, .slice none 0 0] 25 (0, 0))) ∧ Hid (∀ i t, i < j → L[i]? = some t → bareS t n = false)) (fun i _ => L.length - (intOf i).toNat)
  case atStart => exact ⟨0, rfl, Nat.zero_le _, HB3, HS3, fun i t hi => absurd hi (Nat.not_lt_zero _)⟩
  case round =>
    clear HB HB3 HS3
    obtain ⟨j, rfl, hj, HB, HSB, HNO⟩ := hrel
    by_cases hlt : j < L.length
    · obtain ⟨a, ha⟩ : ∃ a, L[j]? = some a := ⟨_, List.getElem?_eq_getElem hlt⟩
      obtain ⟨b, o, A2, cc, rfl, _, hbs, c0, c1, c2, hTa⟩ := HT.out.at_ ha
      have d0 := (HB.out.cell (p := ⟨b, o + j * 3, none⟩) hbs).trans c0
      have d1 := (HB.out.cell (p := ⟨b, o + j * 3 + 1, none⟩) hbs).trans c1
      have d2 := (HB.out.cell (p := ⟨b, o + j * 3 + 2, none⟩) hbs).trans c2
      have hba := bare_any n _ a _ wr (Nat.le_refl _) ((may_iff a).1 (HALL.out a (List.mem_of_getElem? ha))).1 (hTa.bel HB.out)
      have HAA := Lib.hid ha
      clear ha c0 c1 c2 hTa
      cases hbb : bareS a n with
      | true =>
        rw [hbb] at hba
        clear hbb
        go_wp2_with (first
          | (go_at_call 19; refine hba.mono ?_; clear hba; rintro e w2 ⟨rfl, hb⟩; have HB := Lib.hid (bthen HB.out hb); clear hb)
          | (go_at_call 12; with_reducible refine (C12.out _ HB.out).mono ?_; rintro e w1 ⟨rfl, hb⟩; have HB := Lib.hid (bthen HB.out hb); clear hb))
        go_ret
        exact ⟨rfl, HB.out⟩
      | false =>
        rw [hbb] at hba
        have HBB := Lib.hid hbb
        clear hbb
        go_wp2_with (go_at_call 19; refine hba.mono ?_; clear hba; rintro e w2 ⟨rfl, hb⟩; have HB := Lib.hid (bthen HB.out hb); have HSB := Lib.hid ((hb.block _ (Array.getElem?_eq_some_iff.1 HSB.out).1).trans HSB.out); clear hb)
        go_roundw
        case rel =>
          refine ⟨j + 1, by go_num, by omega, HB, HSB, fun i t hi ht => ?_⟩
          rcases Nat.lt_succ_iff_lt_or_eq.1 hi with h | rfl
          · exact HNO.out i t h ht
          · rw [HAA.out] at ht; cases ht; exact HBB.out
        case measure => simp [intOf]; omega
    · obtain rfl : j = L.length := by omega
      have hcan : canS L (.mk 2 n []) = false := canS_bare fun t ht => by
        obtain ⟨i, hi⟩ := List.getElem?_of_mem ht
        exact HNO.out i t (List.getElem?_eq_some_iff.1 hi).1 hi
      have hc := Can_any (.mk 2 n []) L _ _ wr (TR.of (k := 2) (n := n) (by unfold i64; omega) HN.out (TS.none wr Any)) (HT.out.bel HB.out) (HTab.out.bel HB.out)
      rw [hcan] at hc
      have q0 := (blk_cell HSB.out 0).trans rfl
      have q1 := (blk_cell HSB.out 1).trans rfl
      have q2 := (blk_cell HSB.out 2).trans rfl
      clear hcan
      go_wp2_with (first
        | (go_at_call 17; refine hc.mono ?_; clear hc; rintro e w2 ⟨rfl, hb⟩; have HB := Lib.hid (bthen HB.out hb); clear hb)
        | (go_at_call 12; with_reducible refine (C12.out _ HB.out).mono ?_; rintro e w1 ⟨rfl, hb⟩; have HB := Lib.hid (bthen HB.out hb); clear hb))
      go_ret
      exact ⟨rfl, HB.out⟩
end Go.Proofs.YtfhpnkmhppfeiaaDoor
