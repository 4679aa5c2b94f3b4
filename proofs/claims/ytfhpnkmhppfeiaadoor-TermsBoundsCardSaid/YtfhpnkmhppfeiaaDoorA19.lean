/- may of known terms. -/
import Derived.Test.YtfhpnkmhppfeiaaDoorA18
set_option linter.unusedVariables false
set_option linter.unusedSimpArgs false
namespace Go.Proofs.YtfhpnkmhppfeiaaDoor
open Go.RowKit Go.Proofs
set_option maxRecDepth 100000 in
theorem may1_any (t : Tm) (v : Value) (w : World) (hT : TR w Any t v) : Calls Tryd.prog 56 #[v] w fun e w' => e = .returned (.bool (!may t)) ∧ Below w.heap.size w w' := by
  obtain ⟨A, c, rfl⟩ := hT.form3
  have hmay := may_any t _ (w.alloc (.cells #[.int .i64 t.k, .int .i64 t.n, .slice A t.args.length c] 25)) (hT.bel (bself w _))
  obtain ⟨mb, hmb⟩ : ∃ mb, mb = may t := ⟨_, rfl⟩
  rw [← hmb] at hmay ⊢
  clear hmb hT
  go_enter Tryd.func56, Tryd.ntmps56
  go_wp2_with (go_at_call 30; refine hmay.mono ?_; rintro e w2 ⟨rfl, hb⟩)
  go_ret
  exact ⟨rfl, bthen (bself w _) hb⟩
set_option maxRecDepth 100000 in
set_option maxHeartbeats 1000000 in
theorem indexF_any (L : List Tm) (v : Value) (w : World) (hT : TS w Any L v) :
    Calls Tryd.prog 75 #[v, .func (.func 56) #[] #[]] w fun e w' => ∃ r : Int, e = .returned (.int .i64 r) ∧ decide (0 ≤ r) = !L.all may ∧ Below w.heap.size w w' := by
  obtain ⟨A, c, rfl, hc1, hc2⟩ := hT.form
  have HT := Lib.hid hT
  clear hT
  go_enter Tryd.func75, Tryd.ntmps75
  go_wp2_with fail
  go_loopw [8] (fun i wr => ∃ (j : Nat), i = .int .i64 j ∧ j ≤ L.length ∧ Hid (∀ i t, i < j → L[i]? = some t → may t = true) ∧ Hid (Below w.heap.size w wr)) (fun i _ => L.length - (intOf i).toNat)
  case atStart => exact ⟨0, rfl, Nat.zero_le _, fun i t hi => by omega, Below.refl _ _⟩
  case round =>
    obtain ⟨j, rfl, hj, HX, HB⟩ := hrel
    by_cases hlt : j < L.length
    · obtain ⟨a, ha⟩ : ∃ a, L[j]? = some a := ⟨_, List.getElem?_eq_getElem hlt⟩
      obtain ⟨b, o, A2, cc, rfl, _, hbs, c0, c1, c2, hTa⟩ := HT.out.at_ ha
      have d0 := (HB.out.cell (p := ⟨b, o + j * 3, none⟩) hbs).trans c0
      have d1 := (HB.out.cell (p := ⟨b, o + j * 3 + 1, none⟩) hbs).trans c1
      have d2 := (HB.out.cell (p := ⟨b, o + j * 3 + 2, none⟩) hbs).trans c2
      have HAA := Lib.hid ha
      have hm := may1_any a _ wr (hTa.bel HB.out)
      clear ha c0 c1 c2 hTa
      cases hma : may a with
      | true =>
        have HMA := Lib.hid hma
        rw [hma] at hm
        clear hma
        go_wp2_with (go_at_call 56; refine hm.mono ?_; rintro e w1 ⟨rfl, hb1⟩)
        have HB1 := Lib.hid hb1
        clear hb1
        go_roundw
        case rel =>
          refine ⟨j + 1, by go_num, by omega, fun i t hi ht => ?_, bthen HB.out HB1.out⟩
          rcases Nat.lt_or_ge i j with h | h
          · exact HX.out i t h ht
          · obtain rfl : i = j := by omega
            rw [HAA.out] at ht
            cases ht
            exact HMA.out
        case measure => simp [intOf]; omega
      | false =>
        have HMA := Lib.hid hma
        rw [hma] at hm
        clear hma
        go_wp2_with (go_at_call 56; refine hm.mono ?_; rintro e w1 ⟨rfl, hb1⟩)
        go_ret
        refine ⟨(j : Int), rfl, ?_, bthen HB.out hb1⟩
        rw [decide_eq_true (by omega)]
        symm
        rw [Bool.not_eq_true', List.all_eq_false]
        exact ⟨a, List.mem_of_getElem? HAA.out, by rw [HMA.out]; simp⟩
    · obtain rfl : j = L.length := by omega
      go_wp2
      go_ret
      refine ⟨-1, rfl, ?_, HB.out⟩
      symm
      rw [show decide ((0 : Int) ≤ -1) = false from rfl, Bool.not_eq_false', List.all_eq_true]
      intro t ht
      obtain ⟨i, hi⟩ := List.getElem?_of_mem ht
      exact HX.out i t (List.getElem?_eq_some_iff.1 hi).1 hi
set_option maxRecDepth 100000 in
theorem containsF_any (L : List Tm) (v : Value) (w : World) (hT : TS w Any L v) :
    Calls Tryd.prog 55 #[v, .func (.func 56) #[] #[]] w fun e w' => e = .returned (.bool (!L.all may)) ∧ Below w.heap.size w w' := by
  have hi := indexF_any L v w hT
  obtain ⟨A, c, rfl, hc1, hc2⟩ := hT.form
  obtain ⟨cb, hcb⟩ : ∃ cb, cb = !L.all may := ⟨_, rfl⟩
  rw [← hcb] at hi ⊢
  clear hcb hT
  go_enter Tryd.func55, Tryd.ntmps55
  go_wp2_with (go_at_call 75; refine hi.mono ?_; rintro e w2 ⟨r, rfl, hr, hb⟩)
  go_ret
  exact ⟨ret_b (by rw [← hr]), hb⟩
set_option maxRecDepth 100000 in
theorem mays_any (L : List Tm) (v : Value) (w : World) (hT : TS w Any L v) :
    Calls Tryd.prog 37 #[v] w fun e w' => e = .returned (.bool (mayL L)) ∧ Below w.heap.size w w' := by
  have hi := containsF_any L v w hT
  obtain ⟨A, c, rfl, hc1, hc2⟩ := hT.form
  obtain ⟨cb, hcb⟩ : ∃ cb, cb = L.all may := ⟨_, rfl⟩
  rw [← hcb] at hi
  have HM : Hid (mayL L = (decide (L.length ≤ 500) && cb)) := by rw [hcb]; rfl
  clear hcb hT
  by_cases hl : L.length ≤ 500
  · go_enter Tryd.func37, Tryd.ntmps37
    go_wp2_with (go_at_call 55; refine hi.mono ?_; rintro e w2 ⟨rfl, hb⟩)
    go_ret
    exact ⟨ret_b (by rw [HM.out, decide_eq_true hl]; simp), hb⟩
  · go_enter Tryd.func37, Tryd.ntmps37
    go_wp2_with (go_at_call 55; refine hi.mono ?_; rintro e w2 ⟨rfl, hb⟩)
    go_ret
    exact ⟨ret_b (by rw [HM.out, decide_eq_false hl]; simp), Below.refl _ _⟩
end Go.Proofs.YtfhpnkmhppfeiaaDoor
