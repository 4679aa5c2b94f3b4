/- terms.read. -/
import Derived.Test.YtfhpnkmhppfeiaaDoorPlain8
import Derived.Test.YtfhpnkmhppfeiaaDoorR8
import Derived.Test.YtfhpnkmhppfeiaaDoorA11
set_option linter.unusedVariables false
set_option linter.unusedSimpArgs false
namespace Go.Proofs.YtfhpnkmhppfeiaaDoor
open Go.RowKit Go.Proofs Go.ChangeMaps
/-- What read answers: the term, what is left of the text, is there one; what is left in the counter. -/
def ReadT (w : World) (u : Bs) (l : Int) (bl : Nat) (e : Ending) (w' : World) : Prop :=
  ∃ (k n : Int) (A : Option Addr) (len c : Nat) (r : Bs) (b : Bool) (l' : Int), e = .returned (.tuple #[.agg #[.int .i64 k, .int .i64 n, .slice A len c], .string ⟨r.toArray⟩, .bool b]) ∧
    w'.heap[bl]? = some (.cells #[.int .i64 l'] 3 (0, 0)) ∧ l' ≤ l ∧ -1 ≤ l' ∧ Grew (fun b => b = bl) w w' ∧
    ((b = false ∧ ∀ t x, ¬ Want u 0 l t x) ∨ ∃ (t : Tm) (q : Nat), b = true ∧ 0 ≤ l' ∧ q ≤ u.length ∧ r = u.drop q ∧ TR w' (fun b => w.heap.size ≤ b) t (.agg #[.int .i64 k, .int .i64 n, .slice A len c]) ∧
      ∀ t' x, Want u 0 l t' x → t' = t ∧ q = (txt t').length ∧ l' = l - size t')
theorem RW.finT {w wr : World} {bl : Nat} {l' k n k' n' : Int} {v : Value} {A : Option Addr} {len c : Nat} {r u : Bs} {b : Bool} {l : Int} (h : RW w bl l' k n v wr) (hl : l' ≤ l) (hl2 : -1 ≤ l')
    (hf : (b = false ∧ ∀ t x, ¬ Want u 0 l t x) ∨ ∃ (t : Tm) (q : Nat), b = true ∧ 0 ≤ l' ∧ q ≤ u.length ∧ r = u.drop q ∧ TR wr (fun b => w.heap.size + 1 ≤ b) t (.agg #[.int .i64 k', .int .i64 n', .slice A len c]) ∧
      ∀ t' x, Want u 0 l t' x → t' = t ∧ q = (txt t').length ∧ l' = l - size t') :
    ReadT w u l bl (.returned (.tuple #[.agg #[.int .i64 k', .int .i64 n', .slice A len c], .string ⟨r.toArray⟩, .bool b])) (((wr.setCell ⟨w.heap.size, 0, none⟩ (.int .i64 k')).setCell ⟨w.heap.size, 1, none⟩ (.int .i64 n')).setCell ⟨w.heap.size, 2, none⟩ (.slice A len c)) := by
  obtain ⟨o1, o2, _, o4⟩ := h.out (.int .i64 k') (.int .i64 n') (.slice A len c)
  refine ⟨k', n', A, len, c, r, b, l', rfl, o2, hl, hl2, o1, ?_⟩
  rcases hf with hf | ⟨t, q, h1, h2, h4, h5, h6, h7⟩
  · exact .inl hf
  · exact .inr ⟨t, q, h1, h2, h4, h5, (h6.grew o4 fun b hb e => by omega).mono fun b hb _ => by omega, h7⟩
theorem ReadT.grow {w w' w2 : World} {u : Bs} {l : Int} {bl : Nat} {e : Ending} (h : ReadT w u l bl e w') (hg : Grew None_ w' w2) : ReadT w u l bl e w2 := by
  obtain ⟨k, n, A, len, c, r, b, l', h1, h2, h3, h4, h5, h6⟩ := h
  refine ⟨k, n, A, len, c, r, b, l', h1, hg.heap h2 fun h => h.elim, h3, h4, h5.trans hg.any, ?_⟩
  rcases h6 with h6 | ⟨t, q, a1, a2, a4, a5, a6, a7⟩
  · exact .inl h6
  · exact .inr ⟨t, q, a1, a2, a4, a5, a6.bel hg.all, a7⟩
theorem RW.cellsD {w wr : World} {bl : Nat} {l' k n : Int} {v : Value} (h : RW w bl l' k n v wr) (a b c : Value) (j : Nat) :
    (((wr.setCell ⟨w.heap.size, 0, none⟩ a).setCell ⟨w.heap.size, 1, none⟩ b).setCell ⟨w.heap.size, 2, none⟩ c).drew.cell? ⟨w.heap.size, j, none⟩ = (#[a, b, c] : Array Value)[j]? := h.cells a b c j
theorem leftN_eq {w : World} {m r : Nat} {seen : Array Nat} (h : FormsAt w m) (hr : w.heap[r]? = some (.mapIter (some m) 9 seen 9)) : leftN w m r = (leftOf formEs seen).size := by
  unfold leftN
  rw [hr, show w.heap[m]? = _ from h]
theorem Errs.away {w : World} (h : Errs w) {g j : Nat} (hg : 2 < g) (v : Value) : Errs (w.setCell ⟨g, j, none⟩ v) := by
  obtain ⟨⟨a, b, h1⟩, c, d, h2⟩ := h
  exact ⟨⟨a, b, (World.cell?_of_block (w := w) (Below.heap_setCell _ _ _ _ (by simp; omega))).trans h1⟩, c, d, (World.cell?_of_block (w := w) (Below.heap_setCell _ _ _ _ (by simp; omega))).trans h2⟩
theorem Errs.grew {S : Nat → Prop} {w w' : World} (h : Errs w) (hg : Grew S w w') (h1 : ¬ S 1) (h2 : ¬ S 2) : Errs w' := by
  obtain ⟨⟨a, b, e1⟩, c, d, e2⟩ := h
  exact ⟨⟨a, b, hg.cell e1 h1⟩, c, d, hg.cell e2 h2⟩
theorem OTS.grewL {w w' : World} {base : Nat} {ts : List Tm} {v : Value} {S : Nat → Prop} (h : OTS w base ts v) (hg : Grew S w w') (hs : ∀ k, k < w.heap.size → S k → k < base) : OTS w' base ts v := by
  obtain ⟨cs, h, hr⟩ := h
  refine ⟨cs, ?_, fun j a ha => ?_⟩
  · refine ⟨h.1, ?_⟩
    rcases h.2 with hn | ⟨g, cap, cur, e, hb, hh, hrest⟩
    · exact .inl hn
    · exact .inr ⟨g, cap, cur, e, hb, hg.heap hh fun hS => by have := hs g (Array.getElem?_eq_some_iff.1 hh).1 hS; omega, hrest⟩
  · obtain ⟨c0, c1, c2, e0, e1, e2, hT⟩ := hr j a ha
    exact ⟨c0, c1, c2, e0, e1, e2, hT.keep fun k hk hlt => ⟨hg.block k hlt fun hS => by have := hs k hlt hS; have := hk.1; omega, hk⟩⟩
set_option maxRecDepth 100000 in
set_option maxHeartbeats 10000000 in
theorem read_step (u : Bs) (hs : u.length ≤ 100000) (l : Int) (m bl : Nat) (w : World) (h1 : 0 ≤ l) (h2 : l ≤ 2000) (hbl : w.heap[bl]? = some (.cells #[.int .i64 l] 3 (0, 0))) (hF : FormsAt w m) (hmb : m ≠ bl) (hE : Errs w) (hE1 : bl ≠ 1 ∧ bl ≠ 2)
    (ih : ∀ (u2 : Bs) (l2 : Int) (w2 : World), u2.length ≤ 100000 → 0 ≤ l2 → l2 < l → w2.heap[bl]? = some (.cells #[.int .i64 l2] 3 (0, 0)) → FormsAt w2 m → Errs w2 → Calls Tryd.prog 51 #[.string ⟨u2.toArray⟩, .map (some m), .pointer (some ⟨bl, 0, none⟩)] w2 (ReadT w2 u2 l2 bl)) :
    Calls Tryd.prog 51 #[.string ⟨u.toArray⟩, .map (some m), .pointer (some ⟨bl, 0, none⟩)] w (ReadT w u l bl) := by
  have z := bs_size u
  have hlt := (Array.getElem?_eq_some_iff.1 hbl).1
  have hml := hF.lt
  have q0 := (blk_cell hbl 0).trans rfl
  have f0 := blk_free hbl 0
  have HBL := Lib.hid hbl
  have HIH := Lib.hid ih
  have HM := Lib.hid hmb
  have HE1 := Lib.hid hE1
  have HF0 := Lib.hid hF
  have HE0 := Lib.hid hE
  clear hbl ih hmb hE1 hF hE
  go_enter Tryd.func51, Tryd.ntmps51
  go_upto_block 0 with fail
  obtain ⟨W1, hW1⟩ : ∃ W1, W1 = (w.setCell ⟨bl, 0, none⟩ (.int .i64 (l - 1))).alloc (.cells #[.int .i64 0, .int .i64 0, .slice none 0 0] 25) := ⟨_, rfl⟩
  have hs6 : (w.setCell ⟨bl, 0, none⟩ (.int .i64 (l - 1))).heap.size = w.heap.size := by simp [World.setCell]
  have HG1 : Hid (Grew (fun b => b = bl) w W1) := by rw [hW1]; exact ((Grew.refl (fun b => b = bl) w).setCell rfl _).trans (Grew.alloc _ _ _)
  have HS1 : Hid (W1.heap.size = w.heap.size + 1) := by rw [hW1, World.size_alloc, hs6]; rfl
  have HBL1 : Hid (W1.heap[bl]? = some (.cells #[.int .i64 (l - 1)] 3 (0, 0))) := by
    rw [hW1]; unfold Hid; rw [Below.heap_alloc _ _ _ (by rw [hs6]; exact hlt)]; exact (blk_set HBL.out 0 _).trans (by simp)
  have HR1 : Hid (W1.heap[w.heap.size]? = some (.cells #[.int .i64 0, .int .i64 0, .slice none 0 0] 25 (0, 0))) := by
    rw [hW1, ← hs6]; exact heap_alloc_new _ _
  rw [← hW1]
  clear hW1 hs6 q0 f0
  go_cut [9] from 29 to 46 (fun at_ w' => ∃ q : Nat, at_ = .int .i64 q ∧ q = runL u 0 ∧ w' = W1)
  case first =>
    go_wp2_with fail
    go_loopw [9] (fun i wr => ∃ (j : Nat), i = .int .i64 j ∧ j ≤ u.length ∧ Hid (runL u j = runL u 0) ∧ wr = W1) (fun i _ => u.length - (intOf i).toNat)
    case atStart => exact ⟨0, rfl, Nat.zero_le _, rfl, rfl⟩
    case round =>
      obtain ⟨j, rfl, hj, HX, rfl⟩ := hrel
      by_cases hlt2 : j < u.length
      · obtain ⟨c, hc⟩ : ∃ c, u[j]? = some c := ⟨_, List.getElem?_eq_getElem hlt2⟩
        have hb := byte_at hc
        have HC := Lib.hid hc
        clear hc
        by_cases h4 : c.toNat < 97
        · have e1 : ¬ ((c.toNat : Nat) : Int) ≥ 97 := by omega
          have HD : Hid (low c = false) := by unfold Hid; simp only [low, decide_eq_false_iff_not]; omega
          go_wp2_with fail
          go_meet
          case rel => exact ⟨j, rfl, by rw [← HX.out, runL_step HC.out, HD.out]; rfl, rfl⟩
        · by_cases h5 : c.toNat > 122
          · have e1 : ((c.toNat : Nat) : Int) ≥ 97 := by omega
            have e2 : ¬ ((c.toNat : Nat) : Int) ≤ 122 := by omega
            have HD : Hid (low c = false) := by unfold Hid; simp only [low, decide_eq_false_iff_not]; omega
            go_wp2_with fail
            go_meet
            case rel => exact ⟨j, rfl, by rw [← HX.out, runL_step HC.out, HD.out]; rfl, rfl⟩
          · have e1 : ((c.toNat : Nat) : Int) ≥ 97 := by omega
            have e2 : ((c.toNat : Nat) : Int) ≤ 122 := by omega
            have HD : Hid (low c = true) := by unfold Hid; simp only [low, decide_eq_true_eq]; omega
            go_wp2_with fail
            go_roundw
            case rel => exact ⟨j + 1, by go_num, by omega, by unfold Hid; rw [← HX.out, runL_step HC.out, HD.out]; rfl, by first | rfl | trivial⟩
            case measure => simp [intOf]; omega
      · obtain rfl : j = u.length := by omega
        go_wp2_with fail
        go_meet
        case rel => exact ⟨u.length, rfl, by rw [← HX.out, runL_end], rfl⟩
  case rest =>
    obtain ⟨q, rfl, hq, rfl⟩ := hcut
    have HQ := Lib.hid (runL_le u (Nat.zero_le u.length))
    rw [← hq] at HQ
    have HQE := Lib.hid hq
    clear hq
    have HFC : Hid (FormsAt wc m) := HG1.out.heap HF0.out HM.out
    have HEC : Hid (Errs wc) := by
      obtain ⟨⟨a, b, h1⟩, c, d, h2⟩ := HE0.out
      exact ⟨⟨a, b, HG1.out.cell h1 fun e => HE1.out.1 e.symm⟩, c, d, HG1.out.cell h2 fun e => HE1.out.2 e.symm⟩
    go_upto_region 6 with fail
    have hwc := HS1.out
    rw [hwc]
    obtain ⟨W2, hW2⟩ : ∃ W2, W2 = wc.alloc (.cells #[.int .i64 0, .int .i64 0, .slice none 0 0] 25) := ⟨_, rfl⟩
    have HRW : Hid (RW w bl (l - 1) 0 0 (.slice none 0 0) W2) := by
      rw [hW2]
      refine ⟨hlt, HG1.out.trans (Grew.alloc _ _ _), by simp [hwc], ?_, ?_, ?_⟩
      · rw [Below.heap_alloc _ _ _ (by omega)]; exact HBL1.out
      · rw [Below.heap_alloc _ _ _ (by omega)]; exact HR1.out
      · rw [← hwc]; exact heap_alloc_new _ _
    have HS2 : Hid (W2.heap.size = w.heap.size + 1 + 1) := by rw [hW2, World.size_alloc, hwc]; rfl
    have HF2 : Hid (FormsAt W2 m) := by rw [hW2]; exact HFC.out.bel (bself _ _)
    have HE2 : Hid (Errs W2) := by rw [hW2]; exact HEC.out.bel (bself _ _)
    rw [← hW2]
    clear hW2 hwc HG1 HS1 HBL1 HR1
    have hrg := run_range_map (P := Tryd.prog) W2 59 23 86 m formEs 9 Tryd.underlying59 HF2.out
    rw [HS2.out] at hrg
    have hex : (⟨u.toArray⟩ : ByteArray).extract 0 q = ⟨(u.take q).toArray⟩ := by rw [bs_extract, List.drop_zero]
    have HEX := Lib.hid hex
    have hq2 := HQ.out.2
    clear hex
    have HI0 : Hid ((W2.alloc (.mapIter (some m) 9 #[] 9)).heap[w.heap.size + 1 + 1]? = some (.mapIter (some m) 9 #[] 9)) := by rw [← HS2.out]; exact heap_alloc_new _ _
    go_wp2_with fail
    go_loopw [11] (fun _ wr => ∃ (seen : Array Nat) (ds : List MapEntry) (k : Int), Hid (wr.heap[w.heap.size + 1 + 1]? = some (.mapIter (some m) 9 seen 9)) ∧ Hid (FormsAt wr m) ∧ Hid (Errs wr) ∧ Hid ((ds ++ (leftOf formEs seen).toList).Perm formEs.toList) ∧ Hid (Got (u.take q) ds k) ∧ Hid (RW w bl (l - 1) k 0 (.slice none 0 0) wr)) (fun _ wr => leftN wr m (w.heap.size + 1 + 1))
    case atStart =>
      refine ⟨#[], [], 0, HI0, HF2.out.bel (bself _ _), HE2.out.bel (bself _ _), ?_, Got.start _, HRW.out.grew (Grew.alloc _ _ _)⟩
      unfold Hid
      have : (leftOf formEs #[]).toList = formEs.toList := by unfold leftOf; rw [Array.toList_filter]; exact List.filter_eq_self.2 fun x _ => by simp
      rw [this, List.nil_append]
    case round =>
      obtain ⟨seen, ds, k, HR, HFr, HEr, HP, HG, HW⟩ := hrel
      rcases run_next_at (P := Tryd.prog) wr 0 (w.heap.size + 1 + 1) m 9 9 seen formEs 9 HR.out HFr.out formEs_born (Nat.le_refl _) with ⟨hz, hrun⟩ | ⟨e, he, w1, hal, hrun⟩
      rotate_left
      · have hem := left_sub he
        obtain ⟨k', hk', hek⟩ := formEs_at hem
        have HE := Lib.hid he
        have HEK := Lib.hid hek
        have HK' := Lib.hid hk'
        have hw1 : ∀ o, wr.heap[w.heap.size + 1 + 1]? = some o → w1.heap[w.heap.size + 1 + 1]? = some o := fun o h => by rcases hal with rfl | rfl <;> exact h
        have hgr := grown_set (o' := .mapIter (some m) 9 (seen.push e.born) 9) hal HR.out
        have hr2 : (setBlock w1 (w.heap.size + 1 + 1) (.mapIter (some m) 9 (seen.push e.born) 9)).heap[w.heap.size + 1 + 1]? = some (.mapIter (some m) 9 (seen.push e.born) 9) := (MapKept.heap_set (hw1 _ HR.out)).1
        obtain ⟨w2, hw2⟩ : ∃ w2, w2 = setBlock w1 (w.heap.size + 1 + 1) (.mapIter (some m) 9 (seen.push e.born) 9) := ⟨_, rfl⟩
        rw [← hw2] at hrun hgr hr2
        clear hw2 hw1
        have HG2 : Hid (Grew (fun b => w.heap.size + 1 + 1 = b) wr w2) := Grew.of_grownBy hgr fun k e => by cases e; rfl
        have HFw : Hid (FormsAt w2 m) := HG2.out.heap HFr.out fun e => by omega
        have HEw : Hid (Errs w2) := by
          have hl1 : bl < w.heap.size := hlt
          obtain ⟨⟨a, b, h1⟩, c, d, h2⟩ := HE0.out
          have b1 := World.block_lt_of_cell? w _ h1
          have b2 := World.block_lt_of_cell? w _ h2
          simp only at b1 b2
          obtain ⟨⟨a, b, h1⟩, c, d, h2⟩ := HEr.out
          exact ⟨⟨a, b, HG2.out.cell h1 fun e => absurd (show w.heap.size + 1 + 1 = 1 from e) (by omega)⟩, c, d, HG2.out.cell h2 fun e => absurd (show w.heap.size + 1 + 1 = 2 from e) (by omega)⟩
        have HWw : Hid (RW w bl (l - 1) k 0 (.slice none 0 0) w2) := HW.out.away (HG2.out.mono fun b _ e => by omega)
        have hent := run_entry_at (P := Tryd.prog) w2 (w.heap.size + 1 + 1) m 9 seen formEs 9 e hr2 HFw.out hem formEs_nodup
        have HR2 := Lib.hid hr2
        rw [hek] at hrun hent
        have hbb := HWw.out.hs
        clear hgr hr2 he hem hal hk'
        have hnk : (kname k').length = (kname k').length := rfl
        go_wp2_with fail
        obtain ⟨w3, hw3⟩ : ∃ w3, w3 = w2.alloc (.cells #[.string ⟨(kname k').toArray⟩, .int .i64 (arity k')] 86) := ⟨_, rfl⟩
        have l0 : ∀ x : Later w3.heap.size w3, x.w.cell? ⟨w2.heap.size, 0, none⟩ = some (.string ⟨(kname k').toArray⟩) := fun x => by
          refine x.cell ?_ (by rw [hw3]; simp)
          rw [hw3]; exact (blk_cell (heap_alloc_new _ _) 0).trans rfl
        have HFw3 : Hid (FormsAt w3 m) := by rw [hw3]; exact HFw.out.bel (bself _ _)
        have HEw3 : Hid (Errs w3) := by rw [hw3]; exact HEw.out.bel (bself _ _)
        have HWw3 : Hid (RW w bl (l - 1) k 0 (.slice none 0 0) w3) := by rw [hw3]; exact HWw.out.grew (Grew.alloc _ _ _)
        have HR3 : Hid (w3.heap[w.heap.size + 1 + 1]? = some (.mapIter (some m) 9 (seen.push e.born) 9)) := by rw [hw3]; exact ((bself w2 _).block _ (Array.getElem?_eq_some_iff.1 HR2.out).1).trans HR2.out
        rw [← hw3]
        clear hw3 hnk hrun hent
        have hexx := HEX.out
        refine wp_region_later w3.heap.size (by kernel_rfl) ?_
        repeat (first | go_big_quiet_step (fail) | quiet_step (fail))
        refine wpQuiet_nil (later_all ?_)
        intro wx hx
        have HF9 := Lib.hid (HFw3.out.bel hx)
        have HE9 := Lib.hid (HEw3.out.bel hx)
        have HW9 := Lib.hid (HWw3.out.grew (Grew.of_below hx))
        have HR9 := Lib.hid ((hx.block _ (Array.getElem?_eq_some_iff.1 HR3.out).1).trans HR3.out)
        clear hx l0 hexx
        have HPN : Hid (((ds ++ [e]) ++ (leftOf formEs (seen.push e.born)).toList).Perm formEs.toList) := by
          unfold Hid
          rw [left_push]
          refine List.Perm.trans ?_ HP.out
          rw [List.append_assoc]
          exact (perm_left (left_nodup seen formEs_nodup) HE.out).symm.append_left ds
        have HMS : Hid ((leftOf formEs (seen.push e.born)).size < (leftOf formEs seen).size) := by
          have := (perm_left (left_nodup seen formEs_nodup) HE.out).length_eq
          rw [← left_push] at this
          unfold Hid
          simp at this; omega
        by_cases hn : u.take q = kname k'
        · have he : (kname k' == u.take q) = true := by rw [hn]; simp
          have HN := Lib.hid hn
          clear hn
          have f0 := blk_free HW9.out.ht 0
          have t0 := (blk_cell HW9.out.ht 0).trans rfl
          have hs9 := HW9.out.hs
          rw [he]
          go_wp2_with fail
          go_roundw
          case rel =>
            refine ⟨seen.push e.born, ds ++ [e], k', ?_, ?_, ?_, HPN, Got.hit (k := k) HK'.out HN.out e, HW9.out.kind k'⟩
            · exact (Below.heap_setCell _ _ _ _ (by simp)).trans HR9.out
            · exact (Below.heap_setCell _ _ _ _ (by simp; omega)).trans HF9.out
            · exact HE9.out.away (by
                obtain ⟨⟨a, b, h1⟩, c, d, h2⟩ := HE0.out
                have b1 := World.block_lt_of_cell? w _ h1
                have b2 := World.block_lt_of_cell? w _ h2
                simp only at b1 b2
                omega) _
          case measure =>
            rw [leftN_eq ((Below.heap_setCell _ _ _ _ (by simp; omega)).trans HF9.out) ((Below.heap_setCell _ _ _ _ (by simp)).trans HR9.out), leftN_eq HFr.out HR.out]
            exact HMS.out
        · have he : (kname k' == u.take q) = false := by rw [beq_eq_false_iff_ne]; exact fun h => hn h.symm
          have HN := Lib.hid hn
          clear hn
          rw [he]
          go_wp2_with fail
          go_roundw
          case rel =>
            refine ⟨seen.push e.born, ds ++ [e], k, HR9, HF9, HE9, HPN, ?_, HW9⟩
            unfold Hid
            rw [HEK.out]
            exact Got.miss HG.out HK'.out HN.out
          case measure =>
            rw [leftN_eq HF9.out HR9.out, leftN_eq HFr.out HR.out]
            exact HMS.out
      · have hk : k = kOf (u.take q) 9 := HG.out.done (by
          have e1 : (leftOf formEs seen).toList = [] := by rw [← List.length_eq_zero_iff]; simpa using hz
          have hp := HP.out; rw [e1, List.append_nil] at hp; exact hp)
        have HK : Hid (kOf ((u.take (runL u 0)).drop 0) 9 = k) := by unfold Hid; rw [List.drop_zero, ← HQE.out]; exact hk.symm
        have hk09 := kOf_rng (u.take q) 9
        rw [← hk] at hk09
        clear hk HG HP HR hz
        have r0 := (blk_cell HW.out.hr 0).trans rfl
        have r1 := (blk_cell HW.out.hr 1).trans rfl
        have r2 := (blk_cell HW.out.hr 2).trans rfl
        have f0 := blk_free HW.out.hr 0
        have f1 := blk_free HW.out.hr 1
        have f2 := blk_free HW.out.hr 2
        have t0 := (blk_cell HW.out.ht 0).trans rfl
        have t1 := (blk_cell HW.out.ht 1).trans rfl
        have t2 := (blk_cell HW.out.ht 2).trans rfl
        have lb0 := (blk_cell HW.out.hl 0).trans rfl
        have s4 := HW.out.hs
        have s5 : w.heap.size + 1 < wr.heap.size := by omega
        have s6 : w.heap.size < wr.heap.size := by omega
        have s7 : bl < wr.heap.size := by omega
        by_cases h0 : k = 0
        · subst h0
          have HNW : Hid (∀ t x, ¬ Want u 0 l t x) := by
            rintro ⟨k', n', args⟩ x hw
            have h1 := hw.name.1
            rw [HK.out] at h1
            have := hw.head.1
            omega
          go_wp2_with (at_lookup; refine wpList_forms_ok rfl _ _ rfl rfl rfl HFr.out ?_; rw [show isKind 0 = false from rfl])
          obtain ⟨z0, z1, z2⟩ : _ ∧ _ ∧ _ := ⟨HW.out.cellsA (.int .i64 0) (.int .i64 0) (.slice none 0 0) 0 (.cells #[.string ⟨(kname 0).toArray⟩, .int .i64 (arity 0)] 86), HW.out.cellsA (.int .i64 0) (.int .i64 0) (.slice none 0 0) 1 (.cells #[.string ⟨(kname 0).toArray⟩, .int .i64 (arity 0)] 86), HW.out.cellsA (.int .i64 0) (.int .i64 0) (.slice none 0 0) 2 (.cells #[.string ⟨(kname 0).toArray⟩, .int .i64 (arity 0)] 86)⟩
          exact bodyPost_ret (v := .tuple #[.agg #[.int .i64 0, .int .i64 0, .slice none 0 0], .string ⟨#[]⟩, .bool false]) (by simp [results, Tryd.results51, go_sem, z0, z1, z2]) rfl ((HW.out.finT (r := []) (by omega) (by omega) (.inl ⟨rfl, HNW.out⟩)).grow (Grew.alloc _ _ _))
        have hkk : isKind k = true := by simp only [isKind, decide_eq_true_eq]; omega
        have HKK := Lib.hid hkk
        by_cases hl0 : l = 0
        · have hneg : l - 1 < 0 := by omega
          have HNW : Hid (∀ t x, ¬ Want u 0 l t x) := fun t x hw => by have := size_pos t; have := hw.hs; omega
          go_wp2_with (at_lookup; refine wpList_forms_ok rfl _ _ rfl rfl rfl HFr.out ?_; rw [HKK.out])
          obtain ⟨z0, z1, z2⟩ : _ ∧ _ ∧ _ := ⟨HW.out.cellsA (.int .i64 k) (.int .i64 0) (.slice none 0 0) 0 (.cells #[.string ⟨(kname k).toArray⟩, .int .i64 (arity k)] 86), HW.out.cellsA (.int .i64 k) (.int .i64 0) (.slice none 0 0) 1 (.cells #[.string ⟨(kname k).toArray⟩, .int .i64 (arity k)] 86), HW.out.cellsA (.int .i64 k) (.int .i64 0) (.slice none 0 0) 2 (.cells #[.string ⟨(kname k).toArray⟩, .int .i64 (arity k)] 86)⟩
          exact bodyPost_ret (v := .tuple #[.agg #[.int .i64 k, .int .i64 0, .slice none 0 0], .string ⟨#[]⟩, .bool false]) (by simp [results, Tryd.results51, go_sem, z0, z1, z2]) rfl ((HW.out.finT (r := []) (by omega) (by omega) (.inl ⟨rfl, HNW.out⟩)).grow (Grew.alloc _ _ _))
        have hneg : ¬ l - 1 < 0 := by omega
        have hex2 : (⟨u.toArray⟩ : ByteArray).extract q u.length = ⟨(u.drop q).toArray⟩ := by rw [bs_extract, List.take_length]
        have HEX2 := Lib.hid hex2
        have zr := bs_size (u.drop q)
        have hrl : (u.drop q).length = u.length - q := List.length_drop ..
        have HRL := Lib.hid hrl
        obtain ⟨r, hr⟩ : ∃ r, r = u.drop q := ⟨_, rfl⟩
        by_cases h12 : k ≤ 2
        · have hk12 : k = 1 ∨ k = 2 := by omega
          have har : arity k = 0 := ar0 hk12
          obtain ⟨d, hd⟩ : ∃ d, d = runD r 0 := ⟨_, rfl⟩
          have hdl := runD_le r (Nat.zero_le r.length)
          rw [← hd] at hdl
          have HNM : Hid (∀ t x, Want u 0 l t x → ∃ n : Nat, t = .mk k n [] ∧ n ≤ 9223372036854775807 ∧ r.take d = Lib.decDigits n ∧ 0 < d ∧ q + d = (txt t).length) := by
            rintro ⟨k', n', args⟩ x hw
            obtain ⟨w1, w2, _⟩ := hw.name
            rw [HK.out] at w1
            subst w1
            obtain ⟨rfl, n, rfl, a1, a2, a3, a4, a5⟩ := w2 hk12
            rw [← HQE.out] at a2 a3 a5
            have e1 : runD u q = q + d := by rw [hd, hr]; unfold runD; simp
            rw [e1] at a2 a3 a5
            refine ⟨n, rfl, a1, ?_, ?_, by omega⟩
            · rw [← a3, List.drop_take, hr]; congr 1; omega
            · have := List.length_pos_iff.2 (dec_ne n); omega
          have HD := Lib.hid hd
          have HDL := Lib.hid hdl.2
          have HRE := Lib.hid hr
          rw [← hr] at hex2 zr hrl
          have hex3 := hex2
          clear hd hdl hr hk12 hex2
          go_upto_block 4 with (at_lookup; refine wpList_forms_ok rfl _ _ rfl rfl rfl HFr.out ?_; rw [HKK.out, har])
          obtain ⟨W5, hW5⟩ : ∃ W5, W5 = wr.alloc (.cells #[.string ⟨(kname k).toArray⟩, .int .i64 0] 86) := ⟨_, rfl⟩
          have HFB : Hid (W5.heap[wr.heap.size]? = some (.cells #[.string ⟨(kname k).toArray⟩, .int .i64 0] 86 (0, 0))) := by rw [hW5]; exact heap_alloc_new _ _
          have HW5 : Hid (RW w bl (l - 1) k 0 (.slice none 0 0) W5) := by rw [hW5]; exact HW.out.grew (Grew.alloc _ _ _)
          have HE5 : Hid (Errs W5) := by rw [hW5]; exact HEr.out.bel (bself _ _)
          rw [← hW5]
          clear hW5 hrun r0 r1 r2 f0 f1 f2 t0 t1 t2 lb0 s4 s5 s6 s7
          go_cut [9] from 85 to 102 (fun at_ w' => at_ = .int .i64 d ∧ w' = W5)
          case first =>
            go_wp2_with fail
            go_loopw [9] (fun i wr => ∃ (j : Nat), i = .int .i64 j ∧ j ≤ r.length ∧ Hid (runD r j = runD r 0) ∧ wr = W5) (fun i _ => r.length - (intOf i).toNat)
            case atStart => exact ⟨0, rfl, Nat.zero_le _, rfl, rfl⟩
            case round =>
              obtain ⟨j, rfl, hj, HX, rfl⟩ := hrel
              by_cases hlt2 : j < r.length
              · obtain ⟨c, hc⟩ : ∃ c, r[j]? = some c := ⟨_, List.getElem?_eq_getElem hlt2⟩
                have hb := byte_at hc
                have HC := Lib.hid hc
                clear hc
                by_cases h4 : c.toNat < 48
                · have e1 : ¬ ((c.toNat : Nat) : Int) ≥ 48 := by omega
                  have HDG : Hid (dig c = false) := by unfold Hid; simp only [dig, decide_eq_false_iff_not]; omega
                  go_wp2_with fail
                  go_meet
                  case rel => exact ⟨by rw [HD.out, ← HX.out, run_step HC.out, HDG.out]; rfl, rfl⟩
                · by_cases h5 : c.toNat > 57
                  · have e1 : ((c.toNat : Nat) : Int) ≥ 48 := by omega
                    have e2 : ¬ ((c.toNat : Nat) : Int) ≤ 57 := by omega
                    have HDG : Hid (dig c = false) := by unfold Hid; simp only [dig, decide_eq_false_iff_not]; omega
                    go_wp2_with fail
                    go_meet
                    case rel => exact ⟨by rw [HD.out, ← HX.out, run_step HC.out, HDG.out]; rfl, rfl⟩
                  · have e1 : ((c.toNat : Nat) : Int) ≥ 48 := by omega
                    have e2 : ((c.toNat : Nat) : Int) ≤ 57 := by omega
                    have HDG : Hid (dig c = true) := by unfold Hid; simp only [dig, decide_eq_true_eq]; omega
                    go_wp2_with fail
                    go_roundw
                    case rel => exact ⟨j + 1, by go_num, by omega, by unfold Hid; rw [← HX.out, run_step HC.out, HDG.out]; rfl, by first | rfl | trivial⟩
                    case measure => simp [intOf]; omega
              · obtain rfl : j = r.length := by omega
                go_wp2_with fail
                go_meet
                case rel => exact ⟨by rw [HD.out, ← HX.out, run_end], rfl⟩
          case rest =>
            obtain ⟨rfl, rfl⟩ := hcut
            have hd2 := HDL.out
            have hex4 : (⟨r.toArray⟩ : ByteArray).extract 0 d = ⟨(r.take d).toArray⟩ := by rw [bs_extract, List.drop_zero]
            have hex5 : (⟨r.toArray⟩ : ByteArray).extract d (u.length - q) = ⟨(r.drop d).toArray⟩ := by rw [← hrl, bs_extract, List.take_length]
            have hat := atoi_any (r.take d) (by rw [List.length_take]; have := HRL.out; rw [← HRE.out] at this; omega) wc HE5.out
            go_upto_region 20 with (go_at_call 71; refine hat.mono ?_; clear hat; rintro e w6 ⟨x, v, rfl, hx, hb6, hcase⟩; have HX := Lib.hid hx; have HB6 := Lib.hid hb6; have HCASE := Lib.hid hcase; clear hx hb6 hcase)
            have HW6 := Lib.hid (HW5.out.grew (Grew.of_below HB6.out))
            have g1 := blk_free HW6.out.ht 1
            have t1 := (blk_cell HW6.out.ht 1).trans rfl
            have s4 := HW6.out.hs
            have s5 : w.heap.size + 1 < w6.heap.size := by omega
            go_upto_region 21 with fail
            obtain ⟨w7, hw7⟩ : ∃ w7, w7 = w6.setCell ⟨w.heap.size + 1, 1, none⟩ (.int .i64 x) := ⟨_, rfl⟩
            have HW7 : Hid (RW w bl (l - 1) k x (.slice none 0 0) w7) := by rw [hw7]; exact HW6.out.set 1 _ (by simp)
            rw [← hw7]
            clear hw7 g1 t1
            have r0 := (blk_cell HW7.out.hr 0).trans rfl
            have r1 := (blk_cell HW7.out.hr 1).trans rfl
            have r2 := (blk_cell HW7.out.hr 2).trans rfl
            have f0 := blk_free HW7.out.hr 0
            have f1 := blk_free HW7.out.hr 1
            have f2 := blk_free HW7.out.hr 2
            have t0 := (blk_cell HW7.out.ht 0).trans rfl
            have t1 := (blk_cell HW7.out.ht 1).trans rfl
            have t2 := (blk_cell HW7.out.ht 2).trans rfl
            rcases HCASE.out with ⟨rfl, hok⟩ | ⟨⟨te, pe, rfl⟩, hno⟩
            · have HOK := Lib.hid hok
              clear hok
              go_region
              go_wp2_with fail
              obtain ⟨z0, z1, z2⟩ : _ ∧ _ ∧ _ := ⟨HW7.out.cellsD (.int .i64 k) (.int .i64 x) (.slice none 0 0) 0, HW7.out.cellsD (.int .i64 k) (.int .i64 x) (.slice none 0 0) 1, HW7.out.cellsD (.int .i64 k) (.int .i64 x) (.slice none 0 0) 2⟩
              refine bodyPost_ret (v := .tuple #[.agg #[.int .i64 k, .int .i64 x, .slice none 0 0], .string ⟨(r.drop d).toArray⟩, .bool true]) (by simp [results, Tryd.results51, go_sem, z0, z1, z2]) rfl ((HW7.out.finT (by omega) (by omega) ?_).grow (Grew.drew _ _))
              refine .inr ⟨.mk k x [], q + d, rfl, by omega, by omega, by rw [HRE.out, List.drop_drop], TR.of (by unfold i64; omega) HX.out ⟨none, 0, fun _ => undef, rfl, Nat.le_refl 0, by omega, fun h => absurd h (by simp), fun j a h => by simp at h⟩, fun t' x' hw => ?_⟩
              obtain ⟨n, rfl, a1, a2, _, a3⟩ := HNM.out t' x' hw
              rw [HOK.out n a2 a1]
              exact ⟨rfl, a3, by simp [size, sizeL]⟩
            · have hbo : ∀ (w : World), Sem.run Tryd.prog (binOp .eql 97 (.iface te pe) .nilIface) w = .ok (.bool false) w := fun _ => by rfl
              have HNO := Lib.hid hno
              clear hno
              go_region
              go_wp2_with fail
              obtain ⟨z0, z1, z2⟩ : _ ∧ _ ∧ _ := ⟨HW7.out.cellsD (.int .i64 k) (.int .i64 x) (.slice none 0 0) 0, HW7.out.cellsD (.int .i64 k) (.int .i64 x) (.slice none 0 0) 1, HW7.out.cellsD (.int .i64 k) (.int .i64 x) (.slice none 0 0) 2⟩
              refine bodyPost_ret (v := .tuple #[.agg #[.int .i64 k, .int .i64 x, .slice none 0 0], .string ⟨(r.drop d).toArray⟩, .bool false]) (by simp [results, Tryd.results51, go_sem, z0, z1, z2]) rfl ((HW7.out.finT (by omega) (by omega) (.inl ⟨rfl, fun t' x' hw => ?_⟩)).grow (Grew.drew _ _))
              obtain ⟨n, rfl, a1, a2, _, a3⟩ := HNM.out t' x' hw
              exact HNO.out n a2 a1
        · have hk3 : 3 ≤ k := by omega
          have HMID := Lib.hid (Mid.first (s := u) (p := 0) (l := l) HK.out hk3)
          rw [← HQE.out] at HMID
          obtain ⟨ma, hma⟩ : ∃ ma, ma = arity k := ⟨_, rfl⟩
          have hm2 : ma ≤ 2 ∧ 0 < ma := by
            rw [hma]
            by_cases h : k = 3 ∨ k = 9
            · rw [ar1 h]; omega
            · rw [ar2 (by omega) (by omega)]; omega
          obtain ⟨hm2, hm0⟩ := hm2
          have e0 : ((ma : Int) == 0) = false := by rw [beq_eq_false_iff_ne]; omega
          have hma' := hma.symm
          have HMA := Lib.hid hma
          clear hma hr
          go_upto_region 22 with (at_lookup; refine wpList_forms_ok rfl _ _ rfl rfl rfl HFr.out ?_; rw [HKK.out, hma'])
          obtain ⟨W5, hW5⟩ : ∃ W5, W5 = wr.alloc (.cells #[.string ⟨(kname k).toArray⟩, .int .i64 ma] 86) := ⟨_, rfl⟩
          have HFB : Hid (W5.heap[wr.heap.size]? = some (.cells #[.string ⟨(kname k).toArray⟩, .int .i64 ma] 86 (0, 0))) := by rw [hW5]; exact heap_alloc_new _ _
          have HW5 : Hid (RW w bl (l - 1) k 0 (.slice none 0 0) W5) := by rw [hW5]; exact HW.out.grew (Grew.alloc _ _ _)
          have HE5 : Hid (Errs W5) := by rw [hW5]; exact HEr.out.bel (bself _ _)
          have HF5 : Hid (FormsAt W5 m) := by rw [hW5]; exact HFr.out.bel (bself _ _)
          rw [← hW5]
          clear hW5 hrun r0 r1 r2 f0 f1 f2 t0 t1 t2 lb0 s4 s5 s6 s7 hma' HEX HEX2 hex2
          have y1 := (blk_cell HFB.out 1).trans rfl
          obtain ⟨i0, hi, hz0, hz1, hz2⟩ := info_parts info25
          go_wp2_with fail
          go_loopw [15, 120] (fun rest i wr => ∃ (j cur : Nat) (l2 : Int) (done : List Tm) (v : Value), i = .int .i64 j ∧ rest = .string ⟨(u.drop cur).toArray⟩ ∧ j ≤ ma ∧ done.length = j ∧ cur ≤ u.length ∧ 0 ≤ l2 ∧ l2 ≤ l - 1 ∧
            Hid (RW w bl l2 k 0 v wr) ∧ Hid (FormsAt wr m) ∧ Hid (Errs wr) ∧ Hid (OTS wr (w.heap.size + 2) done v) ∧ Hid (Mid u 0 l k j cur l2 done)) (fun _ i _ => ma - (intOf i).toNat)
          case atStart => exact ⟨0, q, l - 1, [], .slice none 0 0, rfl, rfl, Nat.zero_le _, rfl, hq2, by omega, by omega, HW5, HF5, HE5, OTS.nil _ _, HMID⟩
          case round =>
            clear HW HFr HEr HW5 HF5 HE5 HMID HFB y1
            rename_i wold _ _
            obtain ⟨j, cur, l2, done, v, rfl, rfl, hj, hdn, hcur, hl2, hl2', HR2, HF, HE, HO, HMI⟩ := hrel
            subst hdn
            obtain ⟨A, c, rfl, hcl, hcc⟩ := HO.out.form
            have s4 := HR2.out.hs
            have s5 : w.heap.size + 1 < wr.heap.size := by omega
            have s6 : w.heap.size < wr.heap.size := by omega
            have s7 : bl < wr.heap.size := by omega
            by_cases hjm : done.length < ma
            · have HJM : Hid (done.length < arity k) := by unfold Hid; rw [← HMA.out]; exact hjm
              rcases Nat.eq_zero_or_pos done.length with hj0 | hj0
              · skip
                have ej : ((done.length : Int) == 0) = true := by rw [hj0]; rfl
                have HWT : Hid ((if done.length = 0 then (40 : UInt8) else 44) = 40) := by unfold Hid; rw [if_pos hj0]
                clear hj0
                go_upto_region 29 with fail
                obtain ⟨W6, hW6⟩ : ∃ W6, W6 = wr.alloc (.cells #[.int .i64 0, .int .i64 0, .slice none 0 0] 25) := ⟨_, rfl⟩
                have HGA : Hid (W6.heap[wr.heap.size]? = some (.cells #[.int .i64 0, .int .i64 0, .slice none 0 0] 25 (0, 0))) := by rw [hW6]; exact heap_alloc_new _ _
                have HS6 : Hid (W6.heap.size = wr.heap.size + 1) := by rw [hW6]; unfold Hid; simp
                have HB6 : Hid (Below wr.heap.size wr W6) := by rw [hW6]; exact bself _ _
                have HR6 : Hid (RW w bl l2 k 0 (.slice A done.length c) W6) := HR2.out.grew (Grew.of_below HB6.out)
                rw [← hW6]
                clear hW6
                by_cases hcw : u[cur]? = some 40
                · have hcp := fun w1 => cut_yes hcw w1
                  have hcl1 : cur < u.length := (List.getElem?_eq_some_iff.1 hcw).1
                  have HIC : Hid (∀ w1, w1.heap[bl]? = some (.cells #[.int .i64 l2] 3 (0, 0)) → FormsAt w1 m → Errs w1 → Calls Tryd.prog 51 #[.string ⟨(u.drop (cur + 1)).toArray⟩, .map (some m), .pointer (some ⟨bl, 0, none⟩)] w1 (ReadT w1 (u.drop (cur + 1)) l2 bl)) := fun w1 a b c => HIH.out _ l2 w1 (by rw [List.length_drop]; omega) hl2 (by omega) a b c
                  clear hcw
                  go_upto_region 32 with (first
                    | (go_at_call 72; refine (hcp _).mono ?_; rintro e w1 ⟨rfl, rfl⟩)
                    | (go_at_call 51; refine (HIC.out _ HR6.out.hl (HF.out.bel HB6.out) (HE.out.bel HB6.out)).mono ?_; rintro e w7 ⟨k2, n2, A2, len2, c2, r2, b2, l3, rfl, hl3, hl3a, hl3b, hg2, hcase⟩; have HR7 := Lib.hid (HR6.out.call hg2 hl3); have HG7 := Lib.hid hg2; have HCASE := Lib.hid hcase; have HGA7 := Lib.hid (hg2.heap HGA.out fun e => by omega); clear hl3 hg2 hcase; have x0 := (blk_cell HGA7.out 0).trans rfl; have x1 := (blk_cell HGA7.out 1).trans rfl; have x2 := (blk_cell HGA7.out 2).trans rfl; have y0 := blk_free HGA7.out 0; have y1 := blk_free HGA7.out 1; have y2 := blk_free HGA7.out 2; have s8 : wr.heap.size < w7.heap.size := (Array.getElem?_eq_some_iff.1 HGA7.out).1))
                  obtain ⟨w8, hw8⟩ : ∃ w8, w8 = ((w7.setCell ⟨wr.heap.size, 0, none⟩ (.int .i64 k2)).setCell ⟨wr.heap.size, 1, none⟩ (.int .i64 n2)).setCell ⟨wr.heap.size, 2, none⟩ (.slice A2 len2 c2) := ⟨_, rfl⟩
                  have HGS : Hid (Grew (fun b => b = wr.heap.size) w7 w8) := by rw [hw8]; exact (((Grew.refl (fun b => b = wr.heap.size) w7).setCell rfl _).setCell rfl _).setCell rfl _
                  have HR8 : Hid (RW w bl l3 k 0 (.slice A done.length c) w8) := HR7.out.away (HGS.out.mono fun b _ e => by omega)
                  have HG8 : Hid (w8.heap[wr.heap.size]? = some (.cells #[.int .i64 k2, .int .i64 n2, .slice A2 len2 c2] 25 (0, 0))) := by rw [hw8]; exact (blk_set (blk_set (blk_set HGA7.out 0 _) 1 _) 2 _).trans (by simp)
                  have HM8 : Hid (Grew (fun b => b = bl ∨ wr.heap.size ≤ b) wr w8) := ((Grew.of_below HB6.out).trans (HG7.out.mono fun b _ e => .inl e)).trans (HGS.out.mono fun b _ e => .inr (by omega))
                  have HF8 : Hid (FormsAt w8 m) := HM8.out.heap HF.out fun e => by have := HM.out; have := HF.out.lt; omega
                  have HE8 : Hid (Errs w8) := HE.out.grew HM8.out (fun e => by have := HE1.out; have := s4; omega) (fun e => by
                    obtain ⟨⟨a, b, h1⟩, c, d, h2⟩ := HE0.out
                    have b2 := World.block_lt_of_cell? w _ h2
                    simp only at b2
                    have := HE1.out; omega)
                  have HO8 : Hid (OTS w8 (w.heap.size + 2) done (.slice A done.length c)) := HO.out.grewL HM8.out fun k hk h => by omega
                  rw [← hw8]
                  clear hw8 x0 x1 x2 y0 y1 y2
                  cases b2 with
                  | false =>
                    have HNW : Hid (∀ t x, ¬ Want u 0 l t x) := by
                      rcases HCASE.out with ⟨_, h⟩ | ⟨_, _, h, _⟩
                      · exact HMI.out.fail HJM.out fun t x hw => h t x (Want.shift.2 hw)
                      · cases h
                    have r0 := (blk_cell HR8.out.hr 0).trans rfl; have r1 := (blk_cell HR8.out.hr 1).trans rfl; have r2 := (blk_cell HR8.out.hr 2).trans rfl; have f0 := blk_free HR8.out.hr 0; have f1 := blk_free HR8.out.hr 1; have f2 := blk_free HR8.out.hr 2; have t0 := (blk_cell HR8.out.ht 0).trans rfl; have t1 := (blk_cell HR8.out.ht 1).trans rfl; have t2 := (blk_cell HR8.out.ht 2).trans rfl; have g2 := blk_free HR8.out.ht 2; have v4 := HR8.out.hs; have v5 : w.heap.size + 1 < w8.heap.size := (by omega); have v6 : w.heap.size < w8.heap.size := (by omega)
                    go_wp2_with fail
                    obtain ⟨z0, z1, z2⟩ : _ ∧ _ ∧ _ := ⟨HR8.out.cells (.int .i64 k) (.int .i64 0) (.slice A done.length c) 0, HR8.out.cells (.int .i64 k) (.int .i64 0) (.slice A done.length c) 1, HR8.out.cells (.int .i64 k) (.int .i64 0) (.slice A done.length c) 2⟩
                    exact bodyPost_ret (v := .tuple #[.agg #[.int .i64 k, .int .i64 0, .slice A done.length c], .string ⟨#[]⟩, .bool false]) (by simp [results, Tryd.results51, go_sem, z0, z1, z2]) rfl (HR8.out.finT (r := []) (by omega) (by omega) (.inl ⟨rfl, HNW.out⟩))
                  | true =>
                    obtain ⟨t9, q9, a1, a3, a4, a5, a6⟩ : ∃ (t : Tm) (q9 : Nat), 0 ≤ l3 ∧ q9 ≤ (u.drop (cur + 1)).length ∧ r2 = (u.drop (cur + 1)).drop q9 ∧ TR w7 (fun b => w1.heap.size ≤ b) t (.agg #[.int .i64 k2, .int .i64 n2, .slice A2 len2 c2]) ∧ ∀ t' x, Want (u.drop (cur + 1)) 0 l2 t' x → t' = t ∧ q9 = (txt t').length ∧ l3 = l2 - size t' := by
                      rcases HCASE.out with ⟨h, _⟩ | ⟨t, q, _, b1, b2, b3, b4, b5⟩
                      · cases h
                      · exact ⟨t, q, b1, b2, b3, b4, b5⟩
                    rw [List.drop_drop] at a4
                    rw [List.length_drop] at a3
                    subst a4
                    have HT8 : Hid (TR w8 (fun b => w1.heap.size ≤ b) t9 (.agg #[.int .i64 k2, .int .i64 n2, .slice A2 len2 c2])) := a5.grew HGS.out fun b hb e => by have := HS6.out; omega
                    have HUN := Lib.hid a6
                    clear a5 a6
                    obtain ⟨cs, hcs, _⟩ := HO8.out
                    have HCS := Lib.hid hcs
                    clear hcs
                    have x0 := (blk_cell HG8.out 0).trans rfl
                    have x1 := (blk_cell HG8.out 1).trans rfl
                    have x2 := (blk_cell HG8.out 2).trans rfl
                    have s8 : wr.heap.size < w8.heap.size := (Array.getElem?_eq_some_iff.1 HG8.out).1
                    have r0 := (blk_cell HR8.out.hr 0).trans rfl; have r1 := (blk_cell HR8.out.hr 1).trans rfl; have r2 := (blk_cell HR8.out.hr 2).trans rfl; have f0 := blk_free HR8.out.hr 0; have f1 := blk_free HR8.out.hr 1; have f2 := blk_free HR8.out.hr 2; have t0 := (blk_cell HR8.out.ht 0).trans rfl; have t1 := (blk_cell HR8.out.ht 1).trans rfl; have t2 := (blk_cell HR8.out.ht 2).trans rfl; have g2 := blk_free HR8.out.ht 2; have v4 := HR8.out.hs; have v5 : w.heap.size + 1 < w8.heap.size := (by omega); have v6 : w.heap.size < w8.heap.size := (by omega)
                    go_wp2_with (at_builtin; refine wpList_append_own_at _ rfl _ _ 22 rfl (w.heap.size + 2) 25 i0 _ 3 40 Tryd.underlying22 hi hz0 hz1 hz2 rfl (by decide) (.slice A done.length c) _ cs rfl (HCS.out.alloc _) ⟨w8.heap.size, 0, none⟩ 1 1 [.int .i64 k2, .int .i64 n2, .slice A2 len2 c2] rfl rfl (news3 (heap_alloc_new _ _)) (ones3 _ _ _ _ _) ?_ ?_ ?_ ?_; rotate_right; intro v1 w9 hown9 hg9 _ hloc; have HR9 := Lib.hid ((HR8.out.grew (Grew.alloc _ _ _)).away (Grew.of_grownBy hg9 (fun k hk => (HO8.out.base k hk).1))); obtain ⟨A9, c9, rfl, _, _⟩ := own_form hown9; have HL9 := Lib.hid hloc; have HOW9 := Lib.hid hown9; have HG9 := Lib.hid hg9; clear hloc hown9 hg9 r0 r1 r2 f0 f1 f2 t0 t1 t2 g2; have g2 := blk_free HR9.out.ht 2; have t2 := (blk_cell HR9.out.ht 2).trans rfl; have v7 := HR9.out.hs)
                    · have hnew := OTS.append (N := w1.heap.size) (HO8.out.bel (bself _ (.cells #[.int .i64 k2, .int .i64 n2, .slice A2 len2 c2] 25))) (HCS.out.alloc _) (HT8.out.bel (bself _ _)) (fun k hk => by have := (HO.out.base k hk).2; have := HS6.out; omega) (by have := HS6.out; omega) HOW9.out HG9.out HL9.out
                      have HGR9 : Hid (Grew (fun b => w.heap.size + 2 ≤ b) w8 w9) := (Grew.alloc _ _ _).trans (Grew.of_grownBy HG9.out (fun k hk => (HO8.out.base k hk).1))
                      have HB2 : Hid (2 < w.heap.size) := by
                        obtain ⟨_, c, d, h2⟩ := HE0.out
                        have b2 := World.block_lt_of_cell? w _ h2
                        exact Lib.hid (by simpa using b2)
                      go_roundw
                      case rel =>
                        refine ⟨done.length + 1, cur + 1 + q9, l3, done ++ [t9], .slice A9 (done.length + 1) c9, by go_num, rfl, by omega, by simp, by omega, a1, by omega, HR9.out.set 2 _ (by simp), ?_, ?_, ?_, HMI.out.next HJM.out fun t x hw => ?_⟩
                        · exact (Below.heap_setCell _ _ _ _ (by simp; omega)).trans (HGR9.out.heap HF8.out fun e => by omega)
                        · exact (HE8.out.grew HGR9.out (fun e => by have := HB2.out; omega) (fun e => by have := HB2.out; omega)).away (by have := HB2.out; omega) _
                        · exact hnew.grew ((Grew.refl (fun b => b = w.heap.size + 1) w9).setCell rfl _) fun k hk => by omega
                        · obtain ⟨b1, b2, b3⟩ := HUN.out t x (Want.shift.2 hw)
                          exact ⟨b1, by omega, b3⟩
                      case measure => simp [intOf]; omega
                    · unfold maxLen; omega
                    · omega
                    · omega
                · have hcp := fun w1 => cut_no hcw w1
                  have HNW : Hid (∀ t x, ¬ Want u 0 l t x) := HMI.out.bad HJM.out (by rw [HWT.out]; exact hcw)
                  have r0 := (blk_cell HR6.out.hr 0).trans rfl; have r1 := (blk_cell HR6.out.hr 1).trans rfl; have r2 := (blk_cell HR6.out.hr 2).trans rfl; have f0 := blk_free HR6.out.hr 0; have f1 := blk_free HR6.out.hr 1; have f2 := blk_free HR6.out.hr 2; have t0 := (blk_cell HR6.out.ht 0).trans rfl; have t1 := (blk_cell HR6.out.ht 1).trans rfl; have t2 := (blk_cell HR6.out.ht 2).trans rfl; have g2 := blk_free HR6.out.ht 2; have v4 := HR6.out.hs; have v5 : w.heap.size + 1 < W6.heap.size := (by omega); have v6 : w.heap.size < W6.heap.size := (by omega)
                  go_wp2_with (go_at_call 72; refine (hcp _).mono ?_; rintro e w1 ⟨rfl, rfl⟩)
                  obtain ⟨z0, z1, z2⟩ : _ ∧ _ ∧ _ := ⟨HR6.out.cells (.int .i64 k) (.int .i64 0) (.slice A done.length c) 0, HR6.out.cells (.int .i64 k) (.int .i64 0) (.slice A done.length c) 1, HR6.out.cells (.int .i64 k) (.int .i64 0) (.slice A done.length c) 2⟩
                  exact bodyPost_ret (v := .tuple #[.agg #[.int .i64 k, .int .i64 0, .slice A done.length c], .string ⟨#[]⟩, .bool false]) (by simp [results, Tryd.results51, go_sem, z0, z1, z2]) rfl (HR6.out.finT (r := []) (by omega) (by omega) (.inl ⟨rfl, HNW.out⟩))
              · skip
                have ej : ((done.length : Int) == 0) = false := by rw [beq_eq_false_iff_ne]; omega
                have HWT : Hid ((if done.length = 0 then (40 : UInt8) else 44) = 44) := by unfold Hid; rw [if_neg (by omega)]
                clear hj0
                go_upto_region 29 with fail
                obtain ⟨W6, hW6⟩ : ∃ W6, W6 = wr.alloc (.cells #[.int .i64 0, .int .i64 0, .slice none 0 0] 25) := ⟨_, rfl⟩
                have HGA : Hid (W6.heap[wr.heap.size]? = some (.cells #[.int .i64 0, .int .i64 0, .slice none 0 0] 25 (0, 0))) := by rw [hW6]; exact heap_alloc_new _ _
                have HS6 : Hid (W6.heap.size = wr.heap.size + 1) := by rw [hW6]; unfold Hid; simp
                have HB6 : Hid (Below wr.heap.size wr W6) := by rw [hW6]; exact bself _ _
                have HR6 : Hid (RW w bl l2 k 0 (.slice A done.length c) W6) := HR2.out.grew (Grew.of_below HB6.out)
                rw [← hW6]
                clear hW6
                by_cases hcw : u[cur]? = some 44
                · have hcp := fun w1 => cut_yes hcw w1
                  have hcl1 : cur < u.length := (List.getElem?_eq_some_iff.1 hcw).1
                  have HIC : Hid (∀ w1, w1.heap[bl]? = some (.cells #[.int .i64 l2] 3 (0, 0)) → FormsAt w1 m → Errs w1 → Calls Tryd.prog 51 #[.string ⟨(u.drop (cur + 1)).toArray⟩, .map (some m), .pointer (some ⟨bl, 0, none⟩)] w1 (ReadT w1 (u.drop (cur + 1)) l2 bl)) := fun w1 a b c => HIH.out _ l2 w1 (by rw [List.length_drop]; omega) hl2 (by omega) a b c
                  clear hcw
                  go_upto_region 32 with (first
                    | (go_at_call 72; refine (hcp _).mono ?_; rintro e w1 ⟨rfl, rfl⟩)
                    | (go_at_call 51; refine (HIC.out _ HR6.out.hl (HF.out.bel HB6.out) (HE.out.bel HB6.out)).mono ?_; rintro e w7 ⟨k2, n2, A2, len2, c2, r2, b2, l3, rfl, hl3, hl3a, hl3b, hg2, hcase⟩; have HR7 := Lib.hid (HR6.out.call hg2 hl3); have HG7 := Lib.hid hg2; have HCASE := Lib.hid hcase; have HGA7 := Lib.hid (hg2.heap HGA.out fun e => by omega); clear hl3 hg2 hcase; have x0 := (blk_cell HGA7.out 0).trans rfl; have x1 := (blk_cell HGA7.out 1).trans rfl; have x2 := (blk_cell HGA7.out 2).trans rfl; have y0 := blk_free HGA7.out 0; have y1 := blk_free HGA7.out 1; have y2 := blk_free HGA7.out 2; have s8 : wr.heap.size < w7.heap.size := (Array.getElem?_eq_some_iff.1 HGA7.out).1))
                  obtain ⟨w8, hw8⟩ : ∃ w8, w8 = ((w7.setCell ⟨wr.heap.size, 0, none⟩ (.int .i64 k2)).setCell ⟨wr.heap.size, 1, none⟩ (.int .i64 n2)).setCell ⟨wr.heap.size, 2, none⟩ (.slice A2 len2 c2) := ⟨_, rfl⟩
                  have HGS : Hid (Grew (fun b => b = wr.heap.size) w7 w8) := by rw [hw8]; exact (((Grew.refl (fun b => b = wr.heap.size) w7).setCell rfl _).setCell rfl _).setCell rfl _
                  have HR8 : Hid (RW w bl l3 k 0 (.slice A done.length c) w8) := HR7.out.away (HGS.out.mono fun b _ e => by omega)
                  have HG8 : Hid (w8.heap[wr.heap.size]? = some (.cells #[.int .i64 k2, .int .i64 n2, .slice A2 len2 c2] 25 (0, 0))) := by rw [hw8]; exact (blk_set (blk_set (blk_set HGA7.out 0 _) 1 _) 2 _).trans (by simp)
                  have HM8 : Hid (Grew (fun b => b = bl ∨ wr.heap.size ≤ b) wr w8) := ((Grew.of_below HB6.out).trans (HG7.out.mono fun b _ e => .inl e)).trans (HGS.out.mono fun b _ e => .inr (by omega))
                  have HF8 : Hid (FormsAt w8 m) := HM8.out.heap HF.out fun e => by have := HM.out; have := HF.out.lt; omega
                  have HE8 : Hid (Errs w8) := HE.out.grew HM8.out (fun e => by have := HE1.out; have := s4; omega) (fun e => by
                    obtain ⟨⟨a, b, h1⟩, c, d, h2⟩ := HE0.out
                    have b2 := World.block_lt_of_cell? w _ h2
                    simp only at b2
                    have := HE1.out; omega)
                  have HO8 : Hid (OTS w8 (w.heap.size + 2) done (.slice A done.length c)) := HO.out.grewL HM8.out fun k hk h => by omega
                  rw [← hw8]
                  clear hw8 x0 x1 x2 y0 y1 y2
                  cases b2 with
                  | false =>
                    have HNW : Hid (∀ t x, ¬ Want u 0 l t x) := by
                      rcases HCASE.out with ⟨_, h⟩ | ⟨_, _, h, _⟩
                      · exact HMI.out.fail HJM.out fun t x hw => h t x (Want.shift.2 hw)
                      · cases h
                    have r0 := (blk_cell HR8.out.hr 0).trans rfl; have r1 := (blk_cell HR8.out.hr 1).trans rfl; have r2 := (blk_cell HR8.out.hr 2).trans rfl; have f0 := blk_free HR8.out.hr 0; have f1 := blk_free HR8.out.hr 1; have f2 := blk_free HR8.out.hr 2; have t0 := (blk_cell HR8.out.ht 0).trans rfl; have t1 := (blk_cell HR8.out.ht 1).trans rfl; have t2 := (blk_cell HR8.out.ht 2).trans rfl; have g2 := blk_free HR8.out.ht 2; have v4 := HR8.out.hs; have v5 : w.heap.size + 1 < w8.heap.size := (by omega); have v6 : w.heap.size < w8.heap.size := (by omega)
                    go_wp2_with fail
                    obtain ⟨z0, z1, z2⟩ : _ ∧ _ ∧ _ := ⟨HR8.out.cells (.int .i64 k) (.int .i64 0) (.slice A done.length c) 0, HR8.out.cells (.int .i64 k) (.int .i64 0) (.slice A done.length c) 1, HR8.out.cells (.int .i64 k) (.int .i64 0) (.slice A done.length c) 2⟩
                    exact bodyPost_ret (v := .tuple #[.agg #[.int .i64 k, .int .i64 0, .slice A done.length c], .string ⟨#[]⟩, .bool false]) (by simp [results, Tryd.results51, go_sem, z0, z1, z2]) rfl (HR8.out.finT (r := []) (by omega) (by omega) (.inl ⟨rfl, HNW.out⟩))
                  | true =>
                    obtain ⟨t9, q9, a1, a3, a4, a5, a6⟩ : ∃ (t : Tm) (q9 : Nat), 0 ≤ l3 ∧ q9 ≤ (u.drop (cur + 1)).length ∧ r2 = (u.drop (cur + 1)).drop q9 ∧ TR w7 (fun b => w1.heap.size ≤ b) t (.agg #[.int .i64 k2, .int .i64 n2, .slice A2 len2 c2]) ∧ ∀ t' x, Want (u.drop (cur + 1)) 0 l2 t' x → t' = t ∧ q9 = (txt t').length ∧ l3 = l2 - size t' := by
                      rcases HCASE.out with ⟨h, _⟩ | ⟨t, q, _, b1, b2, b3, b4, b5⟩
                      · cases h
                      · exact ⟨t, q, b1, b2, b3, b4, b5⟩
                    rw [List.drop_drop] at a4
                    rw [List.length_drop] at a3
                    subst a4
                    have HT8 : Hid (TR w8 (fun b => w1.heap.size ≤ b) t9 (.agg #[.int .i64 k2, .int .i64 n2, .slice A2 len2 c2])) := a5.grew HGS.out fun b hb e => by have := HS6.out; omega
                    have HUN := Lib.hid a6
                    clear a5 a6
                    obtain ⟨cs, hcs, _⟩ := HO8.out
                    have HCS := Lib.hid hcs
                    clear hcs
                    have x0 := (blk_cell HG8.out 0).trans rfl
                    have x1 := (blk_cell HG8.out 1).trans rfl
                    have x2 := (blk_cell HG8.out 2).trans rfl
                    have s8 : wr.heap.size < w8.heap.size := (Array.getElem?_eq_some_iff.1 HG8.out).1
                    have r0 := (blk_cell HR8.out.hr 0).trans rfl; have r1 := (blk_cell HR8.out.hr 1).trans rfl; have r2 := (blk_cell HR8.out.hr 2).trans rfl; have f0 := blk_free HR8.out.hr 0; have f1 := blk_free HR8.out.hr 1; have f2 := blk_free HR8.out.hr 2; have t0 := (blk_cell HR8.out.ht 0).trans rfl; have t1 := (blk_cell HR8.out.ht 1).trans rfl; have t2 := (blk_cell HR8.out.ht 2).trans rfl; have g2 := blk_free HR8.out.ht 2; have v4 := HR8.out.hs; have v5 : w.heap.size + 1 < w8.heap.size := (by omega); have v6 : w.heap.size < w8.heap.size := (by omega)
                    go_wp2_with (at_builtin; refine wpList_append_own_at _ rfl _ _ 22 rfl (w.heap.size + 2) 25 i0 _ 3 40 Tryd.underlying22 hi hz0 hz1 hz2 rfl (by decide) (.slice A done.length c) _ cs rfl (HCS.out.alloc _) ⟨w8.heap.size, 0, none⟩ 1 1 [.int .i64 k2, .int .i64 n2, .slice A2 len2 c2] rfl rfl (news3 (heap_alloc_new _ _)) (ones3 _ _ _ _ _) ?_ ?_ ?_ ?_; rotate_right; intro v1 w9 hown9 hg9 _ hloc; have HR9 := Lib.hid ((HR8.out.grew (Grew.alloc _ _ _)).away (Grew.of_grownBy hg9 (fun k hk => (HO8.out.base k hk).1))); obtain ⟨A9, c9, rfl, _, _⟩ := own_form hown9; have HL9 := Lib.hid hloc; have HOW9 := Lib.hid hown9; have HG9 := Lib.hid hg9; clear hloc hown9 hg9 r0 r1 r2 f0 f1 f2 t0 t1 t2 g2; have g2 := blk_free HR9.out.ht 2; have t2 := (blk_cell HR9.out.ht 2).trans rfl; have v7 := HR9.out.hs)
                    · have hnew := OTS.append (N := w1.heap.size) (HO8.out.bel (bself _ (.cells #[.int .i64 k2, .int .i64 n2, .slice A2 len2 c2] 25))) (HCS.out.alloc _) (HT8.out.bel (bself _ _)) (fun k hk => by have := (HO.out.base k hk).2; have := HS6.out; omega) (by have := HS6.out; omega) HOW9.out HG9.out HL9.out
                      have HGR9 : Hid (Grew (fun b => w.heap.size + 2 ≤ b) w8 w9) := (Grew.alloc _ _ _).trans (Grew.of_grownBy HG9.out (fun k hk => (HO8.out.base k hk).1))
                      have HB2 : Hid (2 < w.heap.size) := by
                        obtain ⟨_, c, d, h2⟩ := HE0.out
                        have b2 := World.block_lt_of_cell? w _ h2
                        exact Lib.hid (by simpa using b2)
                      go_roundw
                      case rel =>
                        refine ⟨done.length + 1, cur + 1 + q9, l3, done ++ [t9], .slice A9 (done.length + 1) c9, by go_num, rfl, by omega, by simp, by omega, a1, by omega, HR9.out.set 2 _ (by simp), ?_, ?_, ?_, HMI.out.next HJM.out fun t x hw => ?_⟩
                        · exact (Below.heap_setCell _ _ _ _ (by simp; omega)).trans (HGR9.out.heap HF8.out fun e => by omega)
                        · exact (HE8.out.grew HGR9.out (fun e => by have := HB2.out; omega) (fun e => by have := HB2.out; omega)).away (by have := HB2.out; omega) _
                        · exact hnew.grew ((Grew.refl (fun b => b = w.heap.size + 1) w9).setCell rfl _) fun k hk => by omega
                        · obtain ⟨b1, b2, b3⟩ := HUN.out t x (Want.shift.2 hw)
                          exact ⟨b1, by omega, b3⟩
                      case measure => simp [intOf]; omega
                    · unfold maxLen; omega
                    · omega
                    · omega
                · have hcp := fun w1 => cut_no hcw w1
                  have HNW : Hid (∀ t x, ¬ Want u 0 l t x) := HMI.out.bad HJM.out (by rw [HWT.out]; exact hcw)
                  have r0 := (blk_cell HR6.out.hr 0).trans rfl; have r1 := (blk_cell HR6.out.hr 1).trans rfl; have r2 := (blk_cell HR6.out.hr 2).trans rfl; have f0 := blk_free HR6.out.hr 0; have f1 := blk_free HR6.out.hr 1; have f2 := blk_free HR6.out.hr 2; have t0 := (blk_cell HR6.out.ht 0).trans rfl; have t1 := (blk_cell HR6.out.ht 1).trans rfl; have t2 := (blk_cell HR6.out.ht 2).trans rfl; have g2 := blk_free HR6.out.ht 2; have v4 := HR6.out.hs; have v5 : w.heap.size + 1 < W6.heap.size := (by omega); have v6 : w.heap.size < W6.heap.size := (by omega)
                  go_wp2_with (go_at_call 72; refine (hcp _).mono ?_; rintro e w1 ⟨rfl, rfl⟩)
                  obtain ⟨z0, z1, z2⟩ : _ ∧ _ ∧ _ := ⟨HR6.out.cells (.int .i64 k) (.int .i64 0) (.slice A done.length c) 0, HR6.out.cells (.int .i64 k) (.int .i64 0) (.slice A done.length c) 1, HR6.out.cells (.int .i64 k) (.int .i64 0) (.slice A done.length c) 2⟩
                  exact bodyPost_ret (v := .tuple #[.agg #[.int .i64 k, .int .i64 0, .slice A done.length c], .string ⟨#[]⟩, .bool false]) (by simp [results, Tryd.results51, go_sem, z0, z1, z2]) rfl (HR6.out.finT (r := []) (by omega) (by omega) (.inl ⟨rfl, HNW.out⟩))
            · have hjm2 : done.length = ma := by omega
              have HMI2 : Hid (Mid u 0 l k (arity k) cur l2 done) := by unfold Hid; rw [← HMA.out, ← hjm2]; exact HMI.out
              have HM0 : Hid (0 < arity k) := by unfold Hid; rw [← HMA.out]; exact hm0
              clear hjm2
              have r0 := (blk_cell HR2.out.hr 0).trans rfl; have r1 := (blk_cell HR2.out.hr 1).trans rfl; have r2 := (blk_cell HR2.out.hr 2).trans rfl; have f0 := blk_free HR2.out.hr 0; have f1 := blk_free HR2.out.hr 1; have f2 := blk_free HR2.out.hr 2; have t0 := (blk_cell HR2.out.ht 0).trans rfl; have t1 := (blk_cell HR2.out.ht 1).trans rfl; have t2 := (blk_cell HR2.out.ht 2).trans rfl; have g2 := blk_free HR2.out.ht 2; have v4 := HR2.out.hs; have v5 : w.heap.size + 1 < wr.heap.size := (by omega); have v6 : w.heap.size < wr.heap.size := (by omega)
              by_cases hcw : u[cur]? = some 41
              · have hcp := fun w1 => cut_yes hcw w1
                have hcl1 : cur < u.length := (List.getElem?_eq_some_iff.1 hcw).1
                clear hcw
                go_wp2_with (go_at_call 72; refine (hcp _).mono ?_; rintro e w1 ⟨rfl, rfl⟩)
                have HT9 := Lib.hid (TR.of (k := k) (n := 0) (by unfold i64; omega) (by unfold i64; omega) HO.out.ts)
                obtain ⟨z0, z1, z2⟩ : _ ∧ _ ∧ _ := ⟨HR2.out.cells (.int .i64 k) (.int .i64 0) (.slice A done.length c) 0, HR2.out.cells (.int .i64 k) (.int .i64 0) (.slice A done.length c) 1, HR2.out.cells (.int .i64 k) (.int .i64 0) (.slice A done.length c) 2⟩
                exact bodyPost_ret (v := .tuple #[.agg #[.int .i64 k, .int .i64 0, .slice A done.length c], .string ⟨(u.drop (cur + 1)).toArray⟩, .bool true]) (by simp [results, Tryd.results51, go_sem, z0, z1, z2]) rfl (HR2.out.finT (by omega) (by omega) (.inr ⟨.mk k 0 done, cur + 1, rfl, hl2, by omega, rfl, HT9.out.mono fun b hb _ => by omega, fun t' x hw => by
                  obtain ⟨b1, b2, b3, b4⟩ := HMI2.out.last HM0.out hw
                  exact ⟨b1, by omega, b4⟩⟩))
              · have hcp := fun w1 => cut_no hcw w1
                have HNW : Hid (∀ t x, ¬ Want u 0 l t x) := fun t x hw => hcw (HMI2.out.last HM0.out hw).2.1
                go_wp2_with (go_at_call 72; refine (hcp _).mono ?_; rintro e w1 ⟨rfl, rfl⟩)
                obtain ⟨z0, z1, z2⟩ : _ ∧ _ ∧ _ := ⟨HR2.out.cells (.int .i64 k) (.int .i64 0) (.slice A done.length c) 0, HR2.out.cells (.int .i64 k) (.int .i64 0) (.slice A done.length c) 1, HR2.out.cells (.int .i64 k) (.int .i64 0) (.slice A done.length c) 2⟩
                exact bodyPost_ret (v := .tuple #[.agg #[.int .i64 k, .int .i64 0, .slice A done.length c], .string ⟨(u.drop cur).toArray⟩, .bool false]) (by simp [results, Tryd.results51, go_sem, z0, z1, z2]) rfl (HR2.out.finT (by omega) (by omega) (.inl ⟨rfl, HNW.out⟩))
theorem read_text (N : Nat) : ∀ (u : Bs) (l : Int) (m bl : Nat) (w : World), l ≤ N → u.length ≤ 100000 → 0 ≤ l → l ≤ 2000 → w.heap[bl]? = some (.cells #[.int .i64 l] 3 (0, 0)) → FormsAt w m → m ≠ bl → Errs w → bl ≠ 1 ∧ bl ≠ 2 →
    Calls Tryd.prog 51 #[.string ⟨u.toArray⟩, .map (some m), .pointer (some ⟨bl, 0, none⟩)] w (ReadT w u l bl) := by
  induction N with
  | zero =>
    intro u l m bl w h0 hs h1 h2 hb hF hm hE hE1
    exact read_step u hs l m bl w h1 h2 hb hF hm hE hE1 fun u2 l2 w2 _ a b => by omega
  | succ N ih =>
    intro u l m bl w h0 hs h1 h2 hb hF hm hE hE1
    exact read_step u hs l m bl w h1 h2 hb hF hm hE hE1 fun u2 l2 w2 a b c d e f => ih u2 l2 m bl w2 (by omega) a b (by omega) d e hm f hE1
end Go.Proofs.YtfhpnkmhppfeiaaDoor
