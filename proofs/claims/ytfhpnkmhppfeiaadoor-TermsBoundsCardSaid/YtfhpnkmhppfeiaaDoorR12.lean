/- The law's known: the chapter's rows. -/
import Derived.Test.YtfhpnkmhppfeiaaDoorR10
import Derived.Test.YtfhpnkmhppfeiaaDoorA20
import Derived.Test.YtfhpnkmhppfeiaaDoorPlain7
set_option linter.unusedVariables false
set_option linter.unusedSimpArgs false
namespace Go.Proofs.YtfhpnkmhppfeiaaDoor
open Go.RowKit Go.Proofs
theorem dec1 (n : Nat) (h : n < 10) : Lib.decDigits n = [UInt8.ofNat (48 + n)] := by rw [Lib.decDigits, dif_pos h]
theorem itoa1 (n : Nat) (i : Int) (e : i = n) (h : n < 10) : Lib.itoa i = [UInt8.ofNat (48 + n)] := by rw [e, itoa_nat (by omega)]; exact dec1 n h
theorem txs1 : txt (sT 1) = [115, 49] := by unfold sT; rw [txt0 (.inr rfl), itoa1 1 1 rfl (by omega)]; rfl
theorem txs2 : txt (sT 2) = [115, 50] := by unfold sT; rw [txt0 (.inr rfl), itoa1 2 2 rfl (by omega)]; rfl
theorem txs3 : txt (sT 3) = [115, 51] := by unfold sT; rw [txt0 (.inr rfl), itoa1 3 3 rfl (by omega)]; rfl
theorem txd0 : txt d0T = [100, 48] := by unfold d0T; rw [txt0 (.inl rfl), itoa1 0 0 rfl (by omega)]; rfl
/-- A slice of two terms that was built. -/
theorem ts_two {w : World} {g : Nat} {a b : Tm} {x0 x1 x2 y0 y1 y2 : Value} (h : w.heap[g]? = some (.cells #[x0, x1, x2, y0, y1, y2] 25 (0, 0))) (ha : TR w Any a (.agg #[x0, x1, x2])) (hb : TR w Any b (.agg #[y0, y1, y2])) :
    TS w Any [a, b] (.slice (some ⟨g, 0, none⟩) 2 2) := by
  have q := fun j => blk_cell h j
  refine ⟨some ⟨g, 0, none⟩, 2, fun j => if j = 0 then .agg #[x0, x1, x2] else .agg #[y0, y1, y2], rfl, Nat.le_refl _, by omega, fun _ => ⟨g, 0, rfl, trivial, fun j hj => ?_⟩, fun j t hj => ?_⟩
  · have : j = 0 ∨ j = 1 := by simp at hj; omega
    rcases this with rfl | rfl
    · exact ⟨x0, x1, x2, rfl, (q 0).trans rfl, (q 1).trans rfl, (q 2).trans rfl⟩
    · exact ⟨y0, y1, y2, rfl, (q 3).trans rfl, (q 4).trans rfl, (q 5).trans rfl⟩
  · rcases j with _ | _ | j
    · simp at hj; subst hj; exact ha
    · simp at hj; subst hj; exact hb
    · simp at hj
theorem tx4 : txt (Tm.mk 4 0 [sT 1, sT 2]) = [115, 101, 97, 108, 40, 115, 49, 44, 115, 50, 41] := by rw [txt2 (by omega) (by omega), txs1, txs2]; rfl
theorem cx4 (w : World) (hTab : Tab w) : Calls Tryd.prog 29 #[.string ⟨#[115, 101, 97, 108, 40, 115, 49, 44, 115, 50, 41]⟩] w fun e w' => ∃ v, e = .returned v ∧ TR w' (fun b => w.heap.size ≤ b) (Tm.mk 4 0 [sT 1, sT 2]) v ∧ Below w.heap.size w w' := by
  have h := term_any (Tm.mk 4 0 [sT 1, sT 2]) (by simp [rng, rngL, sT, d0T]) (by decide) (by rw [tx4]; decide) w hTab
  rw [tx4] at h
  exact h
theorem tx1 : txt (sT 1) = [115, 49] := by exact txs1
theorem cx1 (w : World) (hTab : Tab w) : Calls Tryd.prog 29 #[.string ⟨#[115, 49]⟩] w fun e w' => ∃ v, e = .returned v ∧ TR w' (fun b => w.heap.size ≤ b) (sT 1) v ∧ Below w.heap.size w w' := by
  have h := term_any (sT 1) (by simp [rng, rngL, sT, d0T]) (by decide) (by rw [tx1]; decide) w hTab
  rw [tx1] at h
  exact h
theorem tx3 : txt (Tm.mk 3 0 [sT 1]) = [112, 117, 98, 108, 105, 99, 40, 115, 49, 41] := by rw [txt1 (.inl rfl), txs1]; rfl
theorem cx3 (w : World) (hTab : Tab w) : Calls Tryd.prog 29 #[.string ⟨#[112, 117, 98, 108, 105, 99, 40, 115, 49, 41]⟩] w fun e w' => ∃ v, e = .returned v ∧ TR w' (fun b => w.heap.size ≤ b) (Tm.mk 3 0 [sT 1]) v ∧ Below w.heap.size w w' := by
  have h := term_any (Tm.mk 3 0 [sT 1]) (by simp [rng, rngL, sT, d0T]) (by decide) (by rw [tx3]; decide) w hTab
  rw [tx3] at h
  exact h
theorem tx2 : txt (sT 2) = [115, 50] := by exact txs2
theorem cx2 (w : World) (hTab : Tab w) : Calls Tryd.prog 29 #[.string ⟨#[115, 50]⟩] w fun e w' => ∃ v, e = .returned v ∧ TR w' (fun b => w.heap.size ≤ b) (sT 2) v ∧ Below w.heap.size w w' := by
  have h := term_any (sT 2) (by simp [rng, rngL, sT, d0T]) (by decide) (by rw [tx2]; decide) w hTab
  rw [tx2] at h
  exact h
theorem tx6 : txt (Tm.mk 6 0 [sT 2, d0T]) = [109, 97, 99, 40, 115, 50, 44, 100, 48, 41] := by rw [txt2 (by omega) (by omega), txs2, txd0]; rfl
theorem cx6 (w : World) (hTab : Tab w) : Calls Tryd.prog 29 #[.string ⟨#[109, 97, 99, 40, 115, 50, 44, 100, 48, 41]⟩] w fun e w' => ∃ v, e = .returned v ∧ TR w' (fun b => w.heap.size ≤ b) (Tm.mk 6 0 [sT 2, d0T]) v ∧ Below w.heap.size w w' := by
  have h := term_any (Tm.mk 6 0 [sT 2, d0T]) (by simp [rng, rngL, sT, d0T]) (by decide) (by rw [tx6]; decide) w hTab
  rw [tx6] at h
  exact h
theorem tx5 : txt (sT 3) = [115, 51] := by exact txs3
theorem cx5 (w : World) (hTab : Tab w) : Calls Tryd.prog 29 #[.string ⟨#[115, 51]⟩] w fun e w' => ∃ v, e = .returned v ∧ TR w' (fun b => w.heap.size ≤ b) (sT 3) v ∧ Below w.heap.size w w' := by
  have h := term_any (sT 3) (by simp [rng, rngL, sT, d0T]) (by decide) (by rw [tx5]; decide) w hTab
  rw [tx5] at h
  exact h
theorem tx8 : txt (Tm.mk 8 0 [sT 1, sT 2]) = [115, 104, 97, 114, 101, 100, 40, 115, 49, 44, 115, 50, 41] := by rw [txt2 (by omega) (by omega), txs1, txs2]; rfl
theorem cx8 (w : World) (hTab : Tab w) : Calls Tryd.prog 29 #[.string ⟨#[115, 104, 97, 114, 101, 100, 40, 115, 49, 44, 115, 50, 41]⟩] w fun e w' => ∃ v, e = .returned v ∧ TR w' (fun b => w.heap.size ≤ b) (Tm.mk 8 0 [sT 1, sT 2]) v ∧ Below w.heap.size w w' := by
  have h := term_any (Tm.mk 8 0 [sT 1, sT 2]) (by simp [rng, rngL, sT, d0T]) (by decide) (by rw [tx8]; decide) w hTab
  rw [tx8] at h
  exact h
theorem tx9 : txt (Tm.mk 8 0 [sT 2, sT 1]) = [115, 104, 97, 114, 101, 100, 40, 115, 50, 44, 115, 49, 41] := by rw [txt2 (by omega) (by omega), txs2, txs1]; rfl
theorem cx9 (w : World) (hTab : Tab w) : Calls Tryd.prog 29 #[.string ⟨#[115, 104, 97, 114, 101, 100, 40, 115, 50, 44, 115, 49, 41]⟩] w fun e w' => ∃ v, e = .returned v ∧ TR w' (fun b => w.heap.size ≤ b) (Tm.mk 8 0 [sT 2, sT 1]) v ∧ Below w.heap.size w w' := by
  have h := term_any (Tm.mk 8 0 [sT 2, sT 1]) (by simp [rng, rngL, sT, d0T]) (by decide) (by rw [tx9]; decide) w hTab
  rw [tx9] at h
  exact h
set_option maxRecDepth 100000 in
set_option maxHeartbeats 1000000 in
theorem known_any (w : World) (hTab : Tab w) : Calls Tryd.prog 12 #[] w fun e w' => e = .returned (.bool true) ∧ Below w.heap.size w w' := by
  have HTab := Lib.hid hTab
  have HB := Lib.hid (Below.refl w.heap.size w)
  clear hTab
  go_enter Tryd.func12, Tryd.ntmps12
  go_wp2_with fail
  refine (cx4 _ HTab.out).mono ?_
  rintro e w1 ⟨v, rfl, hT, hb⟩
  obtain ⟨A1, m1, rfl⟩ := hT.form3
  have HTab1 := Lib.hid (HTab.out.bel hb)
  have HB1 := Lib.hid (bthen HB.out hb)
  have H1 := Lib.hid hT.any
  clear hb hT
  go_wp2_with fail
  refine (cx1 _ HTab1.out).mono ?_
  rintro e w2 ⟨v, rfl, hT, hb⟩
  obtain ⟨A2, m2, rfl⟩ := hT.form3
  have H1' := Lib.hid (H1.out.bel hb)
  clear H1
  have H1 := H1'
  clear H1'
  have HTab2 := Lib.hid (HTab1.out.bel hb)
  have HB2 := Lib.hid (bthen HB1.out hb)
  have H2 := Lib.hid hT.any
  clear hb hT
  go_wp2_with fail
  have hb := bself w2 (.cells #[.int .i64 (Tm.mk 4 0 [sT 1, sT 2]).k, .int .i64 (Tm.mk 4 0 [sT 1, sT 2]).n, .slice A1 (Tm.mk 4 0 [sT 1, sT 2]).args.length m1, .int .i64 (sT 1).k, .int .i64 (sT 1).n, .slice A2 (sT 1).args.length m2] 25)
  have H1' := Lib.hid (H1.out.bel hb)
  clear H1
  have H1 := H1'
  clear H1'
  have H2' := Lib.hid (H2.out.bel hb)
  clear H2
  have H2 := H2'
  clear H2'
  have HTab102 := Lib.hid (HTab2.out.bel hb)
  have HB102 := Lib.hid (bthen HB2.out hb)
  have HA : Hid (TS (w2.alloc (.cells #[.int .i64 (Tm.mk 4 0 [sT 1, sT 2]).k, .int .i64 (Tm.mk 4 0 [sT 1, sT 2]).n, .slice A1 (Tm.mk 4 0 [sT 1, sT 2]).args.length m1, .int .i64 (sT 1).k, .int .i64 (sT 1).n, .slice A2 (sT 1).args.length m2] 25)) Any KA (.slice (some ⟨w2.heap.size, 0, none⟩) 2 2)) := ts_two (heap_alloc_new _ _) H1.out H2.out
  clear hb
  refine (cx3 _ HTab102.out).mono ?_
  rintro e w3 ⟨v, rfl, hT, hb⟩
  obtain ⟨A3, m3, rfl⟩ := hT.form3
  have H1' := Lib.hid (H1.out.bel hb)
  clear H1
  have H1 := H1'
  clear H1'
  have H2' := Lib.hid (H2.out.bel hb)
  clear H2
  have H2 := H2'
  clear H2'
  have HA' := Lib.hid (HA.out.bel hb)
  clear HA
  have HA := HA'
  clear HA'
  have HTab3 := Lib.hid (HTab102.out.bel hb)
  have HB3 := Lib.hid (bthen HB102.out hb)
  have H3 := Lib.hid hT.any
  clear hb hT
  go_wp2_with fail
  refine (cx2 _ HTab3.out).mono ?_
  rintro e w4 ⟨v, rfl, hT, hb⟩
  obtain ⟨A4, m4, rfl⟩ := hT.form3
  have H1' := Lib.hid (H1.out.bel hb)
  clear H1
  have H1 := H1'
  clear H1'
  have H2' := Lib.hid (H2.out.bel hb)
  clear H2
  have H2 := H2'
  clear H2'
  have HA' := Lib.hid (HA.out.bel hb)
  clear HA
  have HA := HA'
  clear HA'
  have H3' := Lib.hid (H3.out.bel hb)
  clear H3
  have H3 := H3'
  clear H3'
  have HTab4 := Lib.hid (HTab3.out.bel hb)
  have HB4 := Lib.hid (bthen HB3.out hb)
  have H4 := Lib.hid hT.any
  clear hb hT
  go_wp2_with fail
  have hb := bself w4 (.cells #[.int .i64 (Tm.mk 3 0 [sT 1]).k, .int .i64 (Tm.mk 3 0 [sT 1]).n, .slice A3 (Tm.mk 3 0 [sT 1]).args.length m3, .int .i64 (sT 2).k, .int .i64 (sT 2).n, .slice A4 (sT 2).args.length m4] 25)
  have H1' := Lib.hid (H1.out.bel hb)
  clear H1
  have H1 := H1'
  clear H1'
  have H2' := Lib.hid (H2.out.bel hb)
  clear H2
  have H2 := H2'
  clear H2'
  have HA' := Lib.hid (HA.out.bel hb)
  clear HA
  have HA := HA'
  clear HA'
  have H3' := Lib.hid (H3.out.bel hb)
  clear H3
  have H3 := H3'
  clear H3'
  have H4' := Lib.hid (H4.out.bel hb)
  clear H4
  have H4 := H4'
  clear H4'
  have HTab104 := Lib.hid (HTab4.out.bel hb)
  have HB104 := Lib.hid (bthen HB4.out hb)
  have HC : Hid (TS (w4.alloc (.cells #[.int .i64 (Tm.mk 3 0 [sT 1]).k, .int .i64 (Tm.mk 3 0 [sT 1]).n, .slice A3 (Tm.mk 3 0 [sT 1]).args.length m3, .int .i64 (sT 2).k, .int .i64 (sT 2).n, .slice A4 (sT 2).args.length m4] 25)) Any KB (.slice (some ⟨w4.heap.size, 0, none⟩) 2 2)) := ts_two (heap_alloc_new _ _) H3.out H4.out
  clear hb
  refine (cx2 _ HTab104.out).mono ?_
  rintro e w5 ⟨v, rfl, hT, hb⟩
  obtain ⟨A5, m5, rfl⟩ := hT.form3
  have H1' := Lib.hid (H1.out.bel hb)
  clear H1
  have H1 := H1'
  clear H1'
  have H2' := Lib.hid (H2.out.bel hb)
  clear H2
  have H2 := H2'
  clear H2'
  have HA' := Lib.hid (HA.out.bel hb)
  clear HA
  have HA := HA'
  clear HA'
  have H3' := Lib.hid (H3.out.bel hb)
  clear H3
  have H3 := H3'
  clear H3'
  have H4' := Lib.hid (H4.out.bel hb)
  clear H4
  have H4 := H4'
  clear H4'
  have HC' := Lib.hid (HC.out.bel hb)
  clear HC
  have HC := HC'
  clear HC'
  have HTab5 := Lib.hid (HTab104.out.bel hb)
  have HB5 := Lib.hid (bthen HB104.out hb)
  have H5 := Lib.hid hT.any
  clear hb hT
  go_wp2_with fail
  have hc := Can_any _ _ _ _ _ H5.out HA.out HTab5.out
  rw [row1] at hc
  refine hc.mono ?_
  clear hc
  rintro e w6 ⟨rfl, hb⟩
  have H1' := Lib.hid (H1.out.bel hb)
  clear H1
  have H1 := H1'
  clear H1'
  have H2' := Lib.hid (H2.out.bel hb)
  clear H2
  have H2 := H2'
  clear H2'
  have HA' := Lib.hid (HA.out.bel hb)
  clear HA
  have HA := HA'
  clear HA'
  have H3' := Lib.hid (H3.out.bel hb)
  clear H3
  have H3 := H3'
  clear H3'
  have H4' := Lib.hid (H4.out.bel hb)
  clear H4
  have H4 := H4'
  clear H4'
  have HC' := Lib.hid (HC.out.bel hb)
  clear HC
  have HC := HC'
  clear HC'
  have H5' := Lib.hid (H5.out.bel hb)
  clear H5
  have H5 := H5'
  clear H5'
  have HTab6 := Lib.hid (HTab5.out.bel hb)
  have HB6 := Lib.hid (bthen HB5.out hb)
  clear hb
  go_wp2_with fail
  refine (cx6 _ HTab6.out).mono ?_
  rintro e w7 ⟨v, rfl, hT, hb⟩
  obtain ⟨A7, m7, rfl⟩ := hT.form3
  have H1' := Lib.hid (H1.out.bel hb)
  clear H1
  have H1 := H1'
  clear H1'
  have H2' := Lib.hid (H2.out.bel hb)
  clear H2
  have H2 := H2'
  clear H2'
  have HA' := Lib.hid (HA.out.bel hb)
  clear HA
  have HA := HA'
  clear HA'
  have H3' := Lib.hid (H3.out.bel hb)
  clear H3
  have H3 := H3'
  clear H3'
  have H4' := Lib.hid (H4.out.bel hb)
  clear H4
  have H4 := H4'
  clear H4'
  have HC' := Lib.hid (HC.out.bel hb)
  clear HC
  have HC := HC'
  clear HC'
  have H5' := Lib.hid (H5.out.bel hb)
  clear H5
  have H5 := H5'
  clear H5'
  have HTab7 := Lib.hid (HTab6.out.bel hb)
  have HB7 := Lib.hid (bthen HB6.out hb)
  have H7 := Lib.hid hT.any
  clear hb hT
  go_wp2_with fail
  have hc := Can_any _ _ _ _ _ H7.out HA.out HTab7.out
  rw [row2] at hc
  refine hc.mono ?_
  clear hc
  rintro e w8 ⟨rfl, hb⟩
  have H1' := Lib.hid (H1.out.bel hb)
  clear H1
  have H1 := H1'
  clear H1'
  have H2' := Lib.hid (H2.out.bel hb)
  clear H2
  have H2 := H2'
  clear H2'
  have HA' := Lib.hid (HA.out.bel hb)
  clear HA
  have HA := HA'
  clear HA'
  have H3' := Lib.hid (H3.out.bel hb)
  clear H3
  have H3 := H3'
  clear H3'
  have H4' := Lib.hid (H4.out.bel hb)
  clear H4
  have H4 := H4'
  clear H4'
  have HC' := Lib.hid (HC.out.bel hb)
  clear HC
  have HC := HC'
  clear HC'
  have H5' := Lib.hid (H5.out.bel hb)
  clear H5
  have H5 := H5'
  clear H5'
  have H7' := Lib.hid (H7.out.bel hb)
  clear H7
  have H7 := H7'
  clear H7'
  have HTab8 := Lib.hid (HTab7.out.bel hb)
  have HB8 := Lib.hid (bthen HB7.out hb)
  clear hb
  go_wp2_with fail
  refine (cx5 _ HTab8.out).mono ?_
  rintro e w9 ⟨v, rfl, hT, hb⟩
  obtain ⟨A9, m9, rfl⟩ := hT.form3
  have H1' := Lib.hid (H1.out.bel hb)
  clear H1
  have H1 := H1'
  clear H1'
  have H2' := Lib.hid (H2.out.bel hb)
  clear H2
  have H2 := H2'
  clear H2'
  have HA' := Lib.hid (HA.out.bel hb)
  clear HA
  have HA := HA'
  clear HA'
  have H3' := Lib.hid (H3.out.bel hb)
  clear H3
  have H3 := H3'
  clear H3'
  have H4' := Lib.hid (H4.out.bel hb)
  clear H4
  have H4 := H4'
  clear H4'
  have HC' := Lib.hid (HC.out.bel hb)
  clear HC
  have HC := HC'
  clear HC'
  have H5' := Lib.hid (H5.out.bel hb)
  clear H5
  have H5 := H5'
  clear H5'
  have H7' := Lib.hid (H7.out.bel hb)
  clear H7
  have H7 := H7'
  clear H7'
  have HTab9 := Lib.hid (HTab8.out.bel hb)
  have HB9 := Lib.hid (bthen HB8.out hb)
  have H9 := Lib.hid hT.any
  clear hb hT
  go_wp2_with fail
  have hc := Can_any _ _ _ _ _ H9.out HA.out HTab9.out
  rw [row3] at hc
  refine hc.mono ?_
  clear hc
  rintro e w10 ⟨rfl, hb⟩
  have H1' := Lib.hid (H1.out.bel hb)
  clear H1
  have H1 := H1'
  clear H1'
  have H2' := Lib.hid (H2.out.bel hb)
  clear H2
  have H2 := H2'
  clear H2'
  have HA' := Lib.hid (HA.out.bel hb)
  clear HA
  have HA := HA'
  clear HA'
  have H3' := Lib.hid (H3.out.bel hb)
  clear H3
  have H3 := H3'
  clear H3'
  have H4' := Lib.hid (H4.out.bel hb)
  clear H4
  have H4 := H4'
  clear H4'
  have HC' := Lib.hid (HC.out.bel hb)
  clear HC
  have HC := HC'
  clear HC'
  have H5' := Lib.hid (H5.out.bel hb)
  clear H5
  have H5 := H5'
  clear H5'
  have H7' := Lib.hid (H7.out.bel hb)
  clear H7
  have H7 := H7'
  clear H7'
  have H9' := Lib.hid (H9.out.bel hb)
  clear H9
  have H9 := H9'
  clear H9'
  have HTab10 := Lib.hid (HTab9.out.bel hb)
  have HB10 := Lib.hid (bthen HB9.out hb)
  clear hb
  go_wp2_with fail
  refine (cx8 _ HTab10.out).mono ?_
  rintro e w11 ⟨v, rfl, hT, hb⟩
  obtain ⟨A11, m11, rfl⟩ := hT.form3
  have H1' := Lib.hid (H1.out.bel hb)
  clear H1
  have H1 := H1'
  clear H1'
  have H2' := Lib.hid (H2.out.bel hb)
  clear H2
  have H2 := H2'
  clear H2'
  have HA' := Lib.hid (HA.out.bel hb)
  clear HA
  have HA := HA'
  clear HA'
  have H3' := Lib.hid (H3.out.bel hb)
  clear H3
  have H3 := H3'
  clear H3'
  have H4' := Lib.hid (H4.out.bel hb)
  clear H4
  have H4 := H4'
  clear H4'
  have HC' := Lib.hid (HC.out.bel hb)
  clear HC
  have HC := HC'
  clear HC'
  have H5' := Lib.hid (H5.out.bel hb)
  clear H5
  have H5 := H5'
  clear H5'
  have H7' := Lib.hid (H7.out.bel hb)
  clear H7
  have H7 := H7'
  clear H7'
  have H9' := Lib.hid (H9.out.bel hb)
  clear H9
  have H9 := H9'
  clear H9'
  have HTab11 := Lib.hid (HTab10.out.bel hb)
  have HB11 := Lib.hid (bthen HB10.out hb)
  have H11 := Lib.hid hT.any
  clear hb hT
  go_wp2_with fail
  have hc := Can_any _ _ _ _ _ H11.out HC.out HTab11.out
  rw [row45] at hc
  refine hc.mono ?_
  clear hc
  rintro e w12 ⟨rfl, hb⟩
  have H1' := Lib.hid (H1.out.bel hb)
  clear H1
  have H1 := H1'
  clear H1'
  have H2' := Lib.hid (H2.out.bel hb)
  clear H2
  have H2 := H2'
  clear H2'
  have HA' := Lib.hid (HA.out.bel hb)
  clear HA
  have HA := HA'
  clear HA'
  have H3' := Lib.hid (H3.out.bel hb)
  clear H3
  have H3 := H3'
  clear H3'
  have H4' := Lib.hid (H4.out.bel hb)
  clear H4
  have H4 := H4'
  clear H4'
  have HC' := Lib.hid (HC.out.bel hb)
  clear HC
  have HC := HC'
  clear HC'
  have H5' := Lib.hid (H5.out.bel hb)
  clear H5
  have H5 := H5'
  clear H5'
  have H7' := Lib.hid (H7.out.bel hb)
  clear H7
  have H7 := H7'
  clear H7'
  have H9' := Lib.hid (H9.out.bel hb)
  clear H9
  have H9 := H9'
  clear H9'
  have H11' := Lib.hid (H11.out.bel hb)
  clear H11
  have H11 := H11'
  clear H11'
  have HTab12 := Lib.hid (HTab11.out.bel hb)
  have HB12 := Lib.hid (bthen HB11.out hb)
  clear hb
  go_wp2_with fail
  refine (cx9 _ HTab12.out).mono ?_
  rintro e w13 ⟨v, rfl, hT, hb⟩
  obtain ⟨A13, m13, rfl⟩ := hT.form3
  have H1' := Lib.hid (H1.out.bel hb)
  clear H1
  have H1 := H1'
  clear H1'
  have H2' := Lib.hid (H2.out.bel hb)
  clear H2
  have H2 := H2'
  clear H2'
  have HA' := Lib.hid (HA.out.bel hb)
  clear HA
  have HA := HA'
  clear HA'
  have H3' := Lib.hid (H3.out.bel hb)
  clear H3
  have H3 := H3'
  clear H3'
  have H4' := Lib.hid (H4.out.bel hb)
  clear H4
  have H4 := H4'
  clear H4'
  have HC' := Lib.hid (HC.out.bel hb)
  clear HC
  have HC := HC'
  clear HC'
  have H5' := Lib.hid (H5.out.bel hb)
  clear H5
  have H5 := H5'
  clear H5'
  have H7' := Lib.hid (H7.out.bel hb)
  clear H7
  have H7 := H7'
  clear H7'
  have H9' := Lib.hid (H9.out.bel hb)
  clear H9
  have H9 := H9'
  clear H9'
  have H11' := Lib.hid (H11.out.bel hb)
  clear H11
  have H11 := H11'
  clear H11'
  have HTab13 := Lib.hid (HTab12.out.bel hb)
  have HB13 := Lib.hid (bthen HB12.out hb)
  have H13 := Lib.hid hT.any
  clear hb hT
  go_wp2_with fail
  have hc := Can_any _ _ _ _ _ H13.out HC.out HTab13.out
  rw [row5] at hc
  refine hc.mono ?_
  clear hc
  rintro e w14 ⟨rfl, hb⟩
  have H1' := Lib.hid (H1.out.bel hb)
  clear H1
  have H1 := H1'
  clear H1'
  have H2' := Lib.hid (H2.out.bel hb)
  clear H2
  have H2 := H2'
  clear H2'
  have HA' := Lib.hid (HA.out.bel hb)
  clear HA
  have HA := HA'
  clear HA'
  have H3' := Lib.hid (H3.out.bel hb)
  clear H3
  have H3 := H3'
  clear H3'
  have H4' := Lib.hid (H4.out.bel hb)
  clear H4
  have H4 := H4'
  clear H4'
  have HC' := Lib.hid (HC.out.bel hb)
  clear HC
  have HC := HC'
  clear HC'
  have H5' := Lib.hid (H5.out.bel hb)
  clear H5
  have H5 := H5'
  clear H5'
  have H7' := Lib.hid (H7.out.bel hb)
  clear H7
  have H7 := H7'
  clear H7'
  have H9' := Lib.hid (H9.out.bel hb)
  clear H9
  have H9 := H9'
  clear H9'
  have H11' := Lib.hid (H11.out.bel hb)
  clear H11
  have H11 := H11'
  clear H11'
  have H13' := Lib.hid (H13.out.bel hb)
  clear H13
  have H13 := H13'
  clear H13'
  have HTab14 := Lib.hid (HTab13.out.bel hb)
  have HB14 := Lib.hid (bthen HB13.out hb)
  clear hb
  go_wp2_with fail
  refine (cx1 _ HTab14.out).mono ?_
  rintro e w15 ⟨v, rfl, hT, hb⟩
  obtain ⟨A15, m15, rfl⟩ := hT.form3
  have H1' := Lib.hid (H1.out.bel hb)
  clear H1
  have H1 := H1'
  clear H1'
  have H2' := Lib.hid (H2.out.bel hb)
  clear H2
  have H2 := H2'
  clear H2'
  have HA' := Lib.hid (HA.out.bel hb)
  clear HA
  have HA := HA'
  clear HA'
  have H3' := Lib.hid (H3.out.bel hb)
  clear H3
  have H3 := H3'
  clear H3'
  have H4' := Lib.hid (H4.out.bel hb)
  clear H4
  have H4 := H4'
  clear H4'
  have HC' := Lib.hid (HC.out.bel hb)
  clear HC
  have HC := HC'
  clear HC'
  have H5' := Lib.hid (H5.out.bel hb)
  clear H5
  have H5 := H5'
  clear H5'
  have H7' := Lib.hid (H7.out.bel hb)
  clear H7
  have H7 := H7'
  clear H7'
  have H9' := Lib.hid (H9.out.bel hb)
  clear H9
  have H9 := H9'
  clear H9'
  have H11' := Lib.hid (H11.out.bel hb)
  clear H11
  have H11 := H11'
  clear H11'
  have H13' := Lib.hid (H13.out.bel hb)
  clear H13
  have H13 := H13'
  clear H13'
  have HTab15 := Lib.hid (HTab14.out.bel hb)
  have HB15 := Lib.hid (bthen HB14.out hb)
  have H15 := Lib.hid hT.any
  clear hb hT
  go_wp2_with fail
  have hc := Can_any _ _ _ _ _ H15.out HC.out HTab15.out
  rw [row6] at hc
  refine hc.mono ?_
  clear hc
  rintro e w16 ⟨rfl, hb⟩
  have H1' := Lib.hid (H1.out.bel hb)
  clear H1
  have H1 := H1'
  clear H1'
  have H2' := Lib.hid (H2.out.bel hb)
  clear H2
  have H2 := H2'
  clear H2'
  have HA' := Lib.hid (HA.out.bel hb)
  clear HA
  have HA := HA'
  clear HA'
  have H3' := Lib.hid (H3.out.bel hb)
  clear H3
  have H3 := H3'
  clear H3'
  have H4' := Lib.hid (H4.out.bel hb)
  clear H4
  have H4 := H4'
  clear H4'
  have HC' := Lib.hid (HC.out.bel hb)
  clear HC
  have HC := HC'
  clear HC'
  have H5' := Lib.hid (H5.out.bel hb)
  clear H5
  have H5 := H5'
  clear H5'
  have H7' := Lib.hid (H7.out.bel hb)
  clear H7
  have H7 := H7'
  clear H7'
  have H9' := Lib.hid (H9.out.bel hb)
  clear H9
  have H9 := H9'
  clear H9'
  have H11' := Lib.hid (H11.out.bel hb)
  clear H11
  have H11 := H11'
  clear H11'
  have H13' := Lib.hid (H13.out.bel hb)
  clear H13
  have H13 := H13'
  clear H13'
  have H15' := Lib.hid (H15.out.bel hb)
  clear H15
  have H15 := H15'
  clear H15'
  have HTab16 := Lib.hid (HTab15.out.bel hb)
  have HB16 := Lib.hid (bthen HB15.out hb)
  clear hb
  go_wp2_with fail
  go_ret
  exact ⟨rfl, HB16.out⟩
end Go.Proofs.YtfhpnkmhppfeiaaDoor
