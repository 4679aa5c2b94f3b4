/- The reference: Of; the law's term. -/
import Derived.Test.YtfhpnkmhppfeiaaDoorR8
set_option linter.unusedVariables false
set_option linter.unusedSimpArgs false
namespace Go.Proofs.YtfhpnkmhppfeiaaDoor
open Go.RowKit Go.Proofs
/-- What Of answers. -/
def OfR (w : World) (s : Bs) (e : Ending) (w' : World) : Prop :=
  ∃ (k n : Int) (A : Option Addr) (len c : Nat) (b : Bool), e = .returned (.tuple #[.agg #[.int .i64 k, .int .i64 n, .slice A len c], .bool b]) ∧ Below w.heap.size w w' ∧
    ((b = true ∧ ∃ t, TR w' (fun b => w.heap.size ≤ b) t (.agg #[.int .i64 k, .int .i64 n, .slice A len c]) ∧ may t = true ∧ txt t = s) ∨
     (b = false ∧ k = 0 ∧ n = 0 ∧ A = none ∧ len = 0 ∧ c = 0 ∧ ∀ t, rng t → may t = true → txt t ≠ s))
/-- The world within Of: the result's cell, the term that was read. -/
structure OW (w : World) (g : Nat) (k n : Int) (v : Value) (wr : World) : Prop where
  hg : w.heap.size < g
  hb : Below w.heap.size w wr
  hr : wr.heap[w.heap.size]? = some (.cells #[.int .i64 0, .int .i64 0, .slice none 0 0] 25 (0, 0))
  hx : wr.heap[g]? = some (.cells #[.int .i64 k, .int .i64 n, v] 25 (0, 0))
theorem OW.bel {w wr w1 : World} {g : Nat} {k n : Int} {v : Value} (h : OW w g k n v wr) (hb : Below wr.heap.size wr w1) : OW w g k n v w1 :=
  ⟨h.hg, bthen h.hb hb, (hb.block _ (Array.getElem?_eq_some_iff.1 h.hr).1).trans h.hr, (hb.block _ (Array.getElem?_eq_some_iff.1 h.hx).1).trans h.hx⟩
theorem OW.cells {w wr : World} {g : Nat} {k n : Int} {v : Value} (h : OW w g k n v wr) (a b c : Value) (j : Nat) :
    (((wr.setCell ⟨w.heap.size, 0, none⟩ a).setCell ⟨w.heap.size, 1, none⟩ b).setCell ⟨w.heap.size, 2, none⟩ c).cell? ⟨w.heap.size, j, none⟩ = (#[a, b, c] : Array Value)[j]? :=
  blk_cell (t := 25) (fr := (0, 0)) ((blk_set (blk_set (blk_set h.hr 0 a) 1 b) 2 c).trans (by simp)) j
theorem OW.fin {w wr : World} {g : Nat} {k n : Int} {v : Value} (h : OW w g k n v wr) (a b c : Value) :
    Below w.heap.size w (((wr.setCell ⟨w.heap.size, 0, none⟩ a).setCell ⟨w.heap.size, 1, none⟩ b).setCell ⟨w.heap.size, 2, none⟩ c) ∧
    Grew (fun b => b = w.heap.size) wr (((wr.setCell ⟨w.heap.size, 0, none⟩ a).setCell ⟨w.heap.size, 1, none⟩ b).setCell ⟨w.heap.size, 2, none⟩ c) :=
  ⟨((h.hb.setCell (p := ⟨w.heap.size, 0, none⟩) (Nat.le_refl _) _).setCell (p := ⟨w.heap.size, 1, none⟩) (Nat.le_refl _) _).setCell (p := ⟨w.heap.size, 2, none⟩) (Nat.le_refl _) _,
   (((Grew.refl (fun b => b = w.heap.size) wr).setCell rfl _).setCell rfl _).setCell rfl _⟩
theorem out3 {wr : World} {g : Nat} {x y z : Value} (h : wr.heap[g]? = some (.cells #[x, y, z] 25 (0, 0))) (a b c : Value) (j : Nat) (o : Obj) :
    ((((wr.setCell ⟨g, 0, none⟩ a).setCell ⟨g, 1, none⟩ b).setCell ⟨g, 2, none⟩ c).alloc o).cell? ⟨g, j, none⟩ = (#[a, b, c] : Array Value)[j]? := by
  have hh := blk_set (blk_set (blk_set h 0 a) 1 b) 2 c
  exact ((bself _ o).cell (p := ⟨g, j, none⟩) (Array.getElem?_eq_some_iff.1 hh).1).trans (blk_cell (t := 25) (fr := (0, 0)) (hh.trans (by simp)) j)
set_option maxRecDepth 100000 in
set_option maxHeartbeats 1000000 in
theorem Of_any (s : Bs) (hs : s.length ≤ 100000) (w : World) (hTab : Tab w) : Calls Tryd.prog 33 #[.string ⟨s.toArray⟩] w (OfR w s) := by
  have z := bs_size s
  have HTab := Lib.hid hTab
  clear hTab
  go_enter Tryd.func33, Tryd.ntmps33
  go_wp2_with fail
  obtain ⟨W0, hW0⟩ : ∃ W0 : World, W0 = (w.alloc (.cells #[.int .i64 0, .int .i64 0, .slice none 0 0] 25)).alloc (.cells #[.int .i64 2000] 3) := ⟨_, rfl⟩
  have HB0 : Hid (Below w.heap.size w W0) := by rw [hW0]; exact balloc (bself w _) _
  have HS0 : Hid (W0.heap.size = w.heap.size + 2) := by rw [hW0]; unfold Hid; simp
  have HR0 : Hid (W0.heap[w.heap.size]? = some (.cells #[.int .i64 0, .int .i64 0, .slice none 0 0] 25 (0, 0))) := by rw [hW0]; unfold Hid; rw [Below.heap_alloc _ _ _ (by simp)]; exact heap_alloc_new _ _
  have HL0 : Hid (W0.heap[w.heap.size + 1]? = some (.cells #[.int .i64 2000] 3 (0, 0))) := by rw [hW0]; exact heap_alloc2 _ _ _
  rw [← hW0]
  clear hW0
  refine (read_any s hs 2000 0 2000 (w.heap.size + 1) W0 (by omega) (by omega) (by omega) (by omega) HL0.out).mono ?_
  rintro e w2 ⟨k, n, A, len, c, E, l', rfl, hl', hl1, hl2, hg2, hcase⟩
  have hs2 : w.heap.size + 2 ≤ w2.heap.size := by have := hg2.size; have := HS0.out; omega
  have HO : Hid (OW w w2.heap.size k n (.slice A len c) (w2.alloc (.cells #[.int .i64 k, .int .i64 n, .slice A len c] 25))) := by
    refine ⟨by omega, balloc ?_ _, ?_, heap_alloc_new _ _⟩
    · exact HB0.out.trans (hg2.below (by have := HS0.out; omega) fun k hk => by omega)
    · rw [Below.heap_alloc _ _ _ (by omega)]; exact hg2.heap HR0.out fun e => by omega
  have s6 : w.heap.size < w2.heap.size := by omega
  have HG2 := Lib.hid hg2.size
  have HR2 := Lib.hid (hg2.heap HR0.out fun e => by omega)
  have HB2 : Hid (Below w.heap.size w w2) := HB0.out.trans (hg2.below (by have := HS0.out; omega) fun k hk => by omega)
  clear hl' hg2 hs2
  have r0 := (blk_cell HR2.out 0).trans rfl; have r1 := (blk_cell HR2.out 1).trans rfl; have r2 := (blk_cell HR2.out 2).trans rfl; have f0 := blk_free HR2.out 0; have f1 := blk_free HR2.out 1; have f2 := blk_free HR2.out 2
  by_cases hE : E = (s.length : Int)
  rotate_left
  · have HNO : Hid (∀ t, rng t → may t = true → txt t ≠ s) := fun t hr hm ht => by
      obtain ⟨m1, m2⟩ := (may_iff t).1 hm
      have hw : Want s 0 2000 t [] := ⟨m1, hr, by simp [ht], noHd_nil, by omega⟩
      rcases hcase with ⟨_, h⟩ | ⟨t', q, rfl, _, _, _, _, h⟩
      · exact h _ _ hw
      · have := (h _ _ hw).2.1
        rw [ht] at this
        exact hE (by omega)
    have e1 : (E != (s.length : Int)) = true := by rw [bne_iff_ne]; exact hE
    clear hE hcase
    go_wp2_with fail
    obtain ⟨z0, z1, z2⟩ : _ ∧ _ ∧ _ := ⟨out3 HR2.out (.int .i64 0) (.int .i64 0) (.slice none 0 0) 0 (.cells #[.int .i64 k, .int .i64 n, .slice A len c] 25), out3 HR2.out (.int .i64 0) (.int .i64 0) (.slice none 0 0) 1 (.cells #[.int .i64 k, .int .i64 n, .slice A len c] 25), out3 HR2.out (.int .i64 0) (.int .i64 0) (.slice none 0 0) 2 (.cells #[.int .i64 k, .int .i64 n, .slice A len c] 25)⟩
    exact bodyPost_ret (v := .tuple #[.agg #[.int .i64 0, .int .i64 0, .slice none 0 0], .bool false]) (by simp [results, Tryd.results33, go_sem, z0, z1, z2]) rfl ⟨0, 0, none, 0, 0, false, rfl, balloc (((HB2.out.setCell (p := ⟨w.heap.size, 0, none⟩) (Nat.le_refl _) _).setCell (p := ⟨w.heap.size, 1, none⟩) (Nat.le_refl _) _).setCell (p := ⟨w.heap.size, 2, none⟩) (Nat.le_refl _) _) _, .inr ⟨rfl, rfl, rfl, rfl, rfl, rfl, HNO.out⟩⟩
  subst hE
  obtain ⟨t, q, hq, hT, hun⟩ : ∃ (t : Tm) (q : Nat), (s.length : Int) = q ∧ TR w2 (fun b => W0.heap.size ≤ b) t (.agg #[.int .i64 k, .int .i64 n, .slice A len c]) ∧ ∀ t' x, Want s 0 2000 t' x → t' = t := by
    rcases hcase with ⟨h, _⟩ | ⟨t', q, h1, _, _, _, h2, h3⟩
    · omega
    · exact ⟨t', q, h1, h2, fun a x h => (h3 a x h).1⟩
  clear hq hcase
  have HUN : Hid (∀ t', rng t' → may t' = true → txt t' = s → t' = t) := fun t' hr hm ht => by
    obtain ⟨m1, m2⟩ := (may_iff t').1 hm
    exact hun t' [] ⟨m1, hr, by simp [ht], noHd_nil, by omega⟩
  have HT := Lib.hid (hT.bel (bself w2 (.cells #[.int .i64 k, .int .i64 n, .slice A len c] 25)))
  have hmay := rMay_any t _ _ HT.out.any
  clear hun hT
  cases hm : may t with
  | false =>
    have HNO : Hid (∀ t, rng t → may t = true → txt t ≠ s) := fun t' hr hm' ht => by
      have := HUN.out t' hr hm' ht
      subst this
      rw [hm] at hm'; cases hm'
    rw [hm] at hmay
    clear hm
    go_wp2_with (go_at_call 16; refine hmay.mono ?_; rintro e w3 ⟨rfl, hb3⟩; have HO3 := Lib.hid (HO.out.bel hb3); clear r0 r1 r2 f0 f1 f2; have r0 := (blk_cell HO3.out.hr 0).trans rfl; have r1 := (blk_cell HO3.out.hr 1).trans rfl; have r2 := (blk_cell HO3.out.hr 2).trans rfl; have f0 := blk_free HO3.out.hr 0; have f1 := blk_free HO3.out.hr 1; have f2 := blk_free HO3.out.hr 2; have t0 := (blk_cell HO3.out.hx 0).trans rfl; have t1 := (blk_cell HO3.out.hx 1).trans rfl; have t2 := (blk_cell HO3.out.hx 2).trans rfl)
    obtain ⟨z0, z1, z2⟩ : _ ∧ _ ∧ _ := ⟨HO3.out.cells (.int .i64 0) (.int .i64 0) (.slice none 0 0) 0, HO3.out.cells (.int .i64 0) (.int .i64 0) (.slice none 0 0) 1, HO3.out.cells (.int .i64 0) (.int .i64 0) (.slice none 0 0) 2⟩
    exact bodyPost_ret (v := .tuple #[.agg #[.int .i64 0, .int .i64 0, (.slice none 0 0)], .bool false]) (by simp [results, Tryd.results33, go_sem, z0, z1, z2]) rfl ⟨0, 0, none, 0, 0, false, rfl, (HO3.out.fin _ _ _).1, .inr ⟨rfl, rfl, rfl, rfl, rfl, rfl, HNO.out⟩⟩
  | true =>
    rw [hm] at hmay
    have HM := Lib.hid ((may_iff t).1 hm)
    have HMM := Lib.hid hm
    have htab : ∀ w3, Below (w2.alloc (.cells #[.int .i64 k, .int .i64 n, .slice A len c] 25)).heap.size (w2.alloc (.cells #[.int .i64 k, .int .i64 n, .slice A len c] 25)) w3 → Tab w3 := fun w3 hb => HTab.out.bel (bthen HO.out.hb hb)
    have htx := fun w3 hb => rText_any _ t _ w3 (Nat.le_refl _) HM.out.1 HM.out.2 (HT.out.any.bel hb) (htab w3 hb)
    have HTX := Lib.hid htx
    clear hm htx htab
    have z2 := bs_size (txt t)
    by_cases hts : txt t = s
    · have e2 : (txt t == s) = true := by rw [hts]; simp
      have e3 : (txt t != s) = false := by rw [hts]; simp
      have HTS := Lib.hid hts
      clear hts
      go_wp2_with (first
        | (go_at_call 16; refine hmay.mono ?_; clear hmay; rintro e w3 ⟨rfl, hb3⟩; have HO3 := Lib.hid (HO.out.bel hb3); clear r0 r1 r2 f0 f1 f2; have r0 := (blk_cell HO3.out.hr 0).trans rfl; have r1 := (blk_cell HO3.out.hr 1).trans rfl; have r2 := (blk_cell HO3.out.hr 2).trans rfl; have f0 := blk_free HO3.out.hr 0; have f1 := blk_free HO3.out.hr 1; have f2 := blk_free HO3.out.hr 2; have t0 := (blk_cell HO3.out.hx 0).trans rfl; have t1 := (blk_cell HO3.out.hx 1).trans rfl; have t2 := (blk_cell HO3.out.hx 2).trans rfl)
        | (go_at_call 28; refine (HTX.out _ hb3).mono ?_; rintro e w4 ⟨rfl, hb4⟩; have HO4 := Lib.hid (HO3.out.bel hb4); clear r0 r1 r2 f0 f1 f2 t0 t1 t2; have r0 := (blk_cell HO4.out.hr 0).trans rfl; have r1 := (blk_cell HO4.out.hr 1).trans rfl; have r2 := (blk_cell HO4.out.hr 2).trans rfl; have f0 := blk_free HO4.out.hr 0; have f1 := blk_free HO4.out.hr 1; have f2 := blk_free HO4.out.hr 2; have t0 := (blk_cell HO4.out.hx 0).trans rfl; have t1 := (blk_cell HO4.out.hx 1).trans rfl; have t2 := (blk_cell HO4.out.hx 2).trans rfl))
      have HT4 := Lib.hid ((HT.out.bel hb3).bel hb4)
      obtain ⟨z0, z1, z2⟩ : _ ∧ _ ∧ _ := ⟨HO4.out.cells (.int .i64 k) (.int .i64 n) (.slice A len c) 0, HO4.out.cells (.int .i64 k) (.int .i64 n) (.slice A len c) 1, HO4.out.cells (.int .i64 k) (.int .i64 n) (.slice A len c) 2⟩
      exact bodyPost_ret (v := .tuple #[.agg #[.int .i64 k, .int .i64 n, .slice A len c], .bool true]) (by simp [results, Tryd.results33, go_sem, z0, z1, z2]) rfl ⟨k, n, A, len, c, true, rfl, (HO4.out.fin _ _ _).1, .inl ⟨rfl, t, (HT4.out.grew (HO4.out.fin _ _ _).2 fun b hb e => by have := HS0.out; omega).mono fun b hb _ => by have := HS0.out; omega, HMM.out, HTS.out⟩⟩
    · have e2 : (txt t == s) = false := by rw [beq_eq_false_iff_ne]; exact hts
      have e3 : (txt t != s) = true := by rw [bne_iff_ne]; exact hts
      have HNO : Hid (∀ t, rng t → may t = true → txt t ≠ s) := fun t' hr hm' ht => by
        have := HUN.out t' hr hm' ht
        subst this
        exact hts ht
      clear hts
      go_wp2_with (first
        | (go_at_call 16; refine hmay.mono ?_; clear hmay; rintro e w3 ⟨rfl, hb3⟩; have HO3 := Lib.hid (HO.out.bel hb3); clear r0 r1 r2 f0 f1 f2; have r0 := (blk_cell HO3.out.hr 0).trans rfl; have r1 := (blk_cell HO3.out.hr 1).trans rfl; have r2 := (blk_cell HO3.out.hr 2).trans rfl; have f0 := blk_free HO3.out.hr 0; have f1 := blk_free HO3.out.hr 1; have f2 := blk_free HO3.out.hr 2; have t0 := (blk_cell HO3.out.hx 0).trans rfl; have t1 := (blk_cell HO3.out.hx 1).trans rfl; have t2 := (blk_cell HO3.out.hx 2).trans rfl)
        | (go_at_call 28; refine (HTX.out _ hb3).mono ?_; rintro e w4 ⟨rfl, hb4⟩; have HO4 := Lib.hid (HO3.out.bel hb4); clear r0 r1 r2 f0 f1 f2 t0 t1 t2; have r0 := (blk_cell HO4.out.hr 0).trans rfl; have r1 := (blk_cell HO4.out.hr 1).trans rfl; have r2 := (blk_cell HO4.out.hr 2).trans rfl; have f0 := blk_free HO4.out.hr 0; have f1 := blk_free HO4.out.hr 1; have f2 := blk_free HO4.out.hr 2; have t0 := (blk_cell HO4.out.hx 0).trans rfl; have t1 := (blk_cell HO4.out.hx 1).trans rfl; have t2 := (blk_cell HO4.out.hx 2).trans rfl))
      obtain ⟨z0, z1, z2⟩ : _ ∧ _ ∧ _ := ⟨HO4.out.cells (.int .i64 0) (.int .i64 0) (.slice none 0 0) 0, HO4.out.cells (.int .i64 0) (.int .i64 0) (.slice none 0 0) 1, HO4.out.cells (.int .i64 0) (.int .i64 0) (.slice none 0 0) 2⟩
      exact bodyPost_ret (v := .tuple #[.agg #[.int .i64 0, .int .i64 0, (.slice none 0 0)], .bool false]) (by simp [results, Tryd.results33, go_sem, z0, z1, z2]) rfl ⟨0, 0, none, 0, 0, false, rfl, (HO4.out.fin _ _ _).1, .inr ⟨rfl, rfl, rfl, rfl, rfl, rfl, HNO.out⟩⟩
set_option maxRecDepth 100000 in
set_option maxHeartbeats 1000000 in
theorem term_any (t : Tm) (hr : rng t) (hm : may t = true) (hs : (txt t).length ≤ 100000) (w : World) (hTab : Tab w) :
    Calls Tryd.prog 29 #[.string ⟨(txt t).toArray⟩] w fun e w' => ∃ v, e = .returned v ∧ TR w' (fun b => w.heap.size ≤ b) t v ∧ Below w.heap.size w w' := by
  have HR := Lib.hid hr
  have HM := Lib.hid hm
  have z := bs_size (txt t)
  have hof := Of_any (txt t) hs (w.alloc (.cells #[.int .i64 0, .int .i64 0, .slice none 0 0] 25)) (hTab.bel (bself _ _))
  clear hr hm hTab
  go_enter Tryd.func29, Tryd.ntmps29
  go_wp2_with fail
  refine hof.mono ?_
  clear hof
  rintro e w2 ⟨k, n, A, len, c, b, rfl, hb2, hcase⟩
  obtain ⟨rfl, t', hT, hm', ht'⟩ | ⟨_, _, _, _, _, _, hno⟩ := hcase
  rotate_left
  · exact absurd rfl (hno t HR.out HM.out)
  obtain rfl : t' = t := txt_inj ((may_iff _).1 hm').1 ((may_iff _).1 HM.out).1 ht'
  have hb2' := hb2
  rw [World.size_alloc] at hb2
  have HB2 := Lib.hid hb2'
  have hs2 : w.heap.size + 1 ≤ w2.heap.size := by have := hb2.size; simpa using this
  have s6 : w.heap.size < w2.heap.size := by omega
  have HR2 := Lib.hid ((hb2.block w.heap.size (by omega)).trans (heap_alloc_new w (.cells #[.int .i64 0, .int .i64 0, .slice none 0 0] 25)))
  have HT := Lib.hid hT
  clear hm' ht' hT hb2 hb2'
  have r0 := (blk_cell HR2.out 0).trans rfl; have r1 := (blk_cell HR2.out 1).trans rfl; have r2 := (blk_cell HR2.out 2).trans rfl; have f0 := blk_free HR2.out 0; have f1 := blk_free HR2.out 1; have f2 := blk_free HR2.out 2
  go_wp2_with fail
  obtain ⟨z0, z1, z2⟩ : _ ∧ _ ∧ _ := ⟨out3 HR2.out (.int .i64 k) (.int .i64 n) (.slice A len c) 0 (.cells #[.int .i64 k, .int .i64 n, .slice A len c] 25), out3 HR2.out (.int .i64 k) (.int .i64 n) (.slice A len c) 1 (.cells #[.int .i64 k, .int .i64 n, .slice A len c] 25), out3 HR2.out (.int .i64 k) (.int .i64 n) (.slice A len c) 2 (.cells #[.int .i64 k, .int .i64 n, .slice A len c] 25)⟩
  have HG : Hid (Grew (fun b => b = w.heap.size) w2 (((w2.setCell ⟨w.heap.size, 0, none⟩ (.int .i64 k)).setCell ⟨w.heap.size, 1, none⟩ (.int .i64 n)).setCell ⟨w.heap.size, 2, none⟩ (.slice A len c))) := (((Grew.refl (fun b => b = w.heap.size) w2).setCell rfl _).setCell rfl _).setCell rfl _
  have HBW : Hid (Below w.heap.size w w2) := bthen (bself w _) HB2.out
  exact bodyPost_ret (v := .agg #[.int .i64 k, .int .i64 n, .slice A len c]) (by simp [results, Tryd.results29, go_sem, z0, z1, z2]) rfl ⟨_, rfl, ((HT.out.grew HG.out fun b hb e => by subst e; simp at hb; omega).bel (bself _ _)).mono fun b hb _ => by simp at hb; omega,
    balloc (((HBW.out.setCell (p := ⟨w.heap.size, 0, none⟩) (Nat.le_refl _) _).setCell (p := ⟨w.heap.size, 1, none⟩) (Nat.le_refl _) _).setCell (p := ⟨w.heap.size, 2, none⟩) (Nat.le_refl _) _) _⟩
end Go.Proofs.YtfhpnkmhppfeiaaDoor
