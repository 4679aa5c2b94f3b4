/- The law TermsBounds, walked. -/
import Derived.Test.YtfhpnkmhppfeiaaDoorPlain9
import Derived.Test.YtfhpnkmhppfeiaaDoorA23
import Derived.Test.YtfhpnkmhppfeiaaDoorA20
import Derived.Test.YtfhpnkmhppfeiaaDoorR12
import Derived.Test.YtfhpnkmhppfeiaaDoorPost4
import Derived.ArgAppend
set_option linter.unusedVariables false
set_option linter.unusedSimpArgs false
namespace Go.Proofs.YtfhpnkmhppfeiaaDoor
open Go.RowKit Go.Proofs
theorem num9_any (n : Int) (w : World) : Calls Tryd.prog 25 #[.int .i64 n] w fun e w' => e = .returned (.int .i64 n) ∧ w' = w := by
  go_enter Tryd.func25, Tryd.ntmps25
  go_wp2_with fail
  go_ret
  exact ⟨rfl, rfl⟩
theorem txd1 : txt (.mk 1 1 []) = [100, 49] := by rw [txt0 (.inl rfl), itoa1 1 1 rfl (by omega)]; rfl
theorem cd1 (w : World) (hTab : Tab w) : Calls Tryd.prog 29 #[.string ⟨#[100, 49]⟩] w fun e w' => ∃ v, e = .returned v ∧ TR w' (fun b => w.heap.size ≤ b) (.mk 1 1 []) v ∧ Below w.heap.size w w' := by
  have h := term_any (.mk 1 1 []) (by simp only [rng, rngL, and_true]; omega) (by decide) (by rw [txd1]; decide) w hTab
  rw [txd1] at h
  exact h
/-- The hashes under way: the term in its block. -/
structure BW (w : World) (B : Nat) (t : Tm) (A : Option Addr) (c : Nat) (wr : World) : Prop where
  hb : Below w.heap.size w wr
  hB : w.heap.size ≤ B
  hx : wr.heap[B]? = some (.cells #[.int .i64 t.k, .int .i64 t.n, .slice A t.args.length c] 25 (0, 0))
  ht : TR wr (fun b => b ≠ B) t (.agg #[.int .i64 t.k, .int .i64 t.n, .slice A t.args.length c])
theorem BW.hash {w wr : World} {B j : Nat} {A : Option Addr} {c : Nat} (h : BW w B (hashT j) A c wr) :
    BW w B (hashT (j + 1)) (some ⟨wr.heap.size, 0, none⟩) 1 ((((wr.setCell ⟨B, 0, none⟩ (.int .i64 9)).setCell ⟨B, 1, none⟩ (.int .i64 0)).setCell ⟨B, 2, none⟩ (.slice (some ⟨wr.heap.size, 0, none⟩) 1 1)).alloc (.cells #[.int .i64 (hashT j).k, .int .i64 (hashT j).n, .slice A (hashT j).args.length c] 25)) := by
  have hl := (Array.getElem?_eq_some_iff.1 h.hx).1
  obtain ⟨W, hW⟩ : ∃ W, W = ((wr.setCell ⟨B, 0, none⟩ (.int .i64 9)).setCell ⟨B, 1, none⟩ (.int .i64 0)).setCell ⟨B, 2, none⟩ (.slice (some ⟨wr.heap.size, 0, none⟩) 1 1) := ⟨_, rfl⟩
  have hs : W.heap.size = wr.heap.size := by rw [hW]; simp [World.setCell]
  have hb : Below w.heap.size w W := by rw [hW]; exact ((h.hb.setCell (p := ⟨B, 0, none⟩) h.hB _).setCell (p := ⟨B, 1, none⟩) h.hB _).setCell (p := ⟨B, 2, none⟩) h.hB _
  have hg : Grew (fun b => b = B) wr W := by rw [hW]; exact (((Grew.refl (fun b => b = B) wr).setCell (j := 0) rfl _).setCell (j := 1) rfl _).setCell (j := 2) rfl _
  have hx : W.heap[B]? = some (.cells #[.int .i64 9, .int .i64 0, .slice (some ⟨wr.heap.size, 0, none⟩) 1 1] 25 (0, 0)) := by rw [hW]; exact (blk_set (blk_set (blk_set h.hx 0 _) 1 _) 2 _).trans (by simp)
  rw [← hW]
  clear hW
  refine ⟨balloc hb _, h.hB, ?_, ?_⟩
  · exact ((bself W _).block _ (by omega)).trans hx
  · have hn := heap_alloc_new W (.cells #[.int .i64 (hashT j).k, .int .i64 (hashT j).n, .slice A (hashT j).args.length c] 25)
    rw [hs] at hn
    exact TR.hash hn (by omega) ((h.ht.grew hg fun k hk e => hk e).bel (bself W _))
set_option maxRecDepth 100000 in
set_option maxHeartbeats 8000000 in
theorem bounds_any (w : World) (hTab : Tab w) : Calls Tryd.prog 9 #[] w fun e w' => e = .returned (.bool true) ∧ Below w.heap.size w w' := by
  have HTab := Lib.hid hTab
  clear hTab
  go_enter Tryd.func9, Tryd.ntmps9
  go_upto_region 2 with (go_at_call 29; refine (cx1 _ HTab.out).mono ?_; rintro e w1 ⟨v, rfl, hT, hb⟩; obtain ⟨A, c, rfl⟩ := hT.form3; have HT := Lib.hid hT; have HB1 := Lib.hid hb; clear hT hb)
  obtain ⟨W1, hW1⟩ : ∃ W1 : World, W1 = w1.alloc (.cells #[.int .i64 (sT 1).k, .int .i64 (sT 1).n, .slice A (sT 1).args.length c] 25) := ⟨_, rfl⟩
  have HBW : Hid (BW w w1.heap.size (hashT 0) A c W1) := by
    rw [hW1]
    refine ⟨balloc HB1.out _, HB1.out.size, heap_alloc_new _ _, (HT.out.any.past.bel (bself w1 _)).mono fun b hb _ => ?_⟩
    have : b < w1.heap.size := hb
    omega
  rw [← hW1]
  clear hW1
  go_wp2_with fail
  go_loopw [2] (fun i wr => ∃ (j : Nat) (A : Option Addr) (c : Nat), i = .int .i64 (j + 1) ∧ j ≤ 1999 ∧ Hid (BW w w1.heap.size (hashT j) A c wr)) (fun i _ => 2001 - (intOf i).toNat)
  case atStart => exact ⟨0, A, c, rfl, by omega, HBW⟩
  case round =>
    clear HBW
    obtain ⟨j, A, c, rfl, hj, HBW⟩ := hrel
    have t0 := (blk_cell HBW.out.hx 0).trans rfl
    have t1 := (blk_cell HBW.out.hx 1).trans rfl
    have t2 := (blk_cell HBW.out.hx 2).trans rfl
    have f0 := blk_free HBW.out.hx 0
    have f1 := blk_free HBW.out.hx 1
    have f2 := blk_free HBW.out.hx 2
    have hl := (Array.getElem?_eq_some_iff.1 HBW.out.hx).1
    by_cases hlt : j < 1999
    · have e1 : (j : Int) + 1 < 2000 := by omega
      go_wp2_with fail
      go_roundw
      case rel => exact ⟨j + 1, _, _, by go_num, by omega, HBW.out.hash⟩
      case measure => simp [intOf]; omega
    · obtain rfl : j = 1999 := by omega
      go_upto_region 7 with fail

      obtain ⟨W6, hW6⟩ : ∃ W6 : World, W6 = (wr.alloc (.cells #[.int .i64 (hashT 1999).k, .int .i64 (hashT 1999).n, .slice A (hashT 1999).args.length c] 25)).alloc (.cells #[.int .i64 9, .int .i64 0, .slice (some ⟨wr.heap.size, 0, none⟩) 1 1] 25) := ⟨_, rfl⟩
      have HB6 : Hid (Below wr.heap.size wr W6) := by rw [hW6]; exact balloc (bself wr _) _
      have HG6 : Hid (W6.heap[wr.heap.size]? = some (.cells #[.int .i64 (hashT 1999).k, .int .i64 (hashT 1999).n, .slice A (hashT 1999).args.length c] 25 (0, 0))) := by rw [hW6]; exact ((bself _ _).block _ (by simp)).trans (heap_alloc_new wr _)
      have H3 : Hid (W6.heap[wr.heap.size + 1]? = some (.cells #[.int .i64 9, .int .i64 0, .slice (some ⟨wr.heap.size, 0, none⟩) 1 1] 25 (0, 0))) := by rw [hW6]; have hn := heap_alloc_new (wr.alloc (.cells #[.int .i64 (hashT 1999).k, .int .i64 (hashT 1999).n, .slice A (hashT 1999).args.length c] 25)) (.cells #[.int .i64 9, .int .i64 0, .slice (some ⟨wr.heap.size, 0, none⟩) 1 1] 25); rw [World.size_alloc] at hn; exact hn
      have H1 : Hid (W6.heap[w1.heap.size]? = some (.cells #[.int .i64 (hashT 1999).k, .int .i64 (hashT 1999).n, .slice A (hashT 1999).args.length c] 25 (0, 0))) := (HB6.out.block _ hl).trans HBW.out.hx
      have HT6 : Hid (TR W6 Any (hashT 1999) (.agg #[.int .i64 (hashT 1999).k, .int .i64 (hashT 1999).n, .slice A (hashT 1999).args.length c])) := (HBW.out.ht.any).bel HB6.out
      have HU6 : Hid (TR W6 Any (hashT 2000) (.agg #[.int .i64 9, .int .i64 0, .slice (some ⟨wr.heap.size, 0, none⟩) 1 1])) := TR.hash HG6.out trivial HT6.out
      have HBW6 : Hid (Below w.heap.size w W6) := bthen HBW.out.hb HB6.out
      have HTab6 : Hid (Tab W6) := HTab.out.bel HBW6.out
      rw [← hW6]
      clear hW6 t0 t1 t2 f0 f1 f2 HBW HB6 HG6 hl
      rw [show ((1999 : Nat) : Int) + 1 = 2000 from rfl]
      obtain ⟨i0, hi, hz0, hz1, hz2⟩ := info_parts info25
      go_wp2_with fail
      go_loopw [4, 5] (fun l i wr => ∃ (j : Nat), i = .int .i64 j ∧ j ≤ 500 ∧ Hid (OTS wr W6.heap.size (secs j) l) ∧ Hid (Below W6.heap.size W6 wr)) (fun _ i _ => 500 - (intOf i).toNat)
      case atStart => exact ⟨0, rfl, by omega, OTS.nil _ _, Below.refl _ _⟩
      case round =>
        rename_i wold _ _ _ _ _
        obtain ⟨j, rfl, hj, HO, HB⟩ := hrel
        obtain ⟨al, cl, hl, hcl1, hcl2⟩ := HO.out.form
        rw [secs_len] at hl hcl1
        subst hl
        by_cases hlt : j < 500
        · obtain ⟨cs, hcs, _⟩ := HO.out
          have HCS := Lib.hid hcs
          clear hcs
          go_wp2_with (at_builtin; refine wpList_append_own_at _ rfl _ _ 22 rfl W6.heap.size 25 i0 _ 3 40 Tryd.underlying22 hi hz0 hz1 hz2 rfl (by decide) (.slice al j cl) _ cs rfl (HCS.out.alloc _) ⟨wr.heap.size, 0, none⟩ 1 1 [.int .i64 2, .int .i64 j, .slice none 0 0] rfl rfl (news3 (heap_alloc_new _ _)) (ones3 _ _ _ _ _) ?p1 ?p2 ?p3 ?p4; rotate_right; intro v1 w9 hown9 hg9 _ hloc; have HL9 := Lib.hid hloc; have HOW9 := Lib.hid hown9; have HG9 := Lib.hid hg9; clear hloc hown9 hg9)
          case p1 => rw [secs_len]; unfold maxLen; omega
          case p2 => rw [secs_len]; omega
          case p3 => exact Nat.le_trans HB.out.size (by simp)
          have hnew := OTS.append (N := wr.heap.size) (HO.out.bel (bself wr (.cells #[.int .i64 2, .int .i64 j, .slice none 0 0] 25))) (HCS.out.alloc _) (TR.secAt (D := fun b => wr.heap.size ≤ b) hlt) (fun k hk => (HO.out.base k hk).2) HB.out.size HOW9.out HG9.out HL9.out
          rw [← secs_succ] at hnew
          have hbn := Below.grown (bthen HB.out (bself wr (.cells #[.int .i64 2, .int .i64 j, .slice none 0 0] 25))) HG9.out (Nat.le_trans HB.out.size (by simp)) (fun k hk => (HO.out.base k hk).1)
          go_roundw
          case rel => exact ⟨j + 1, by go_num, by omega, hnew, hbn⟩
          case measure => simp [intOf]; omega
        · obtain rfl : j = 500 := by omega
          have HLE : Hid (∀ w1, Below wr.heap.size wr w1 → Calls Tryd.prog 24 #[.slice al 500 cl] w1 (LearnT w1 (secs 500))) := fun w1 hb => Learn_any _ _ w1 secs_mayL (by have := HO.out.ts.any.bel hb; exact this) ((HTab6.out.bel HB.out).bel hb)
          go_upto_region 12 with fail
          have HBWr := Lib.hid (bthen HBW6.out HB.out)
          go_upto_region 13 with fail
          refine (HLE.out _ (Below.refl _ _)).mono ?_
          rintro e w7 ⟨vx, us, ts, rfl, hTx, hpm, hri, hle, hnd, hlu, hb⟩
          have hlen := secs_learnt hle hnd hpm
          obtain ⟨Ax, cx, rfl, _, _⟩ := hTx.form
          rw [hlen]
          have HB7 := Lib.hid hb
          clear hTx hpm hri hle hnd hlu hb hlen HLE
          go_upto_region 13 with fail
          have HO7 : Hid (OTS w7 W6.heap.size (secs 500) (.slice al 500 cl)) := HO.out.bel HB7.out
          have HB67 : Hid (Below W6.heap.size W6 w7) := bthen HB.out HB7.out
          have HBW7 : Hid (Below w.heap.size w w7) := bthen HBW6.out HB67.out
          have HTab7 : Hid (Tab w7) := HTab6.out.bel HB67.out
          obtain ⟨cs, hcs, hct⟩ := HO7.out
          obtain ⟨g, rfl⟩ : ∃ g, al = some ⟨g, 0, none⟩ := by
            rcases hcs.2 with ⟨_, hn⟩ | ⟨g, cap, cur, e, _⟩
            · rw [secs_len] at hn; omega
            · simp only [Value.slice.injEq] at e; exact ⟨g, e.1⟩
          have HCS := Lib.hid (fun (x : World) (hb : Below w7.heap.size w7 x) => own_bel hcs hb)
          have HCT : Hid (CT w7 Any (secs 500) cs) := fun j t hj => by
            obtain ⟨c0, c1, c2, a0, a1, a2, hT⟩ := hct j t hj
            exact ⟨c0, c1, c2, a0, a1, a2, hT.any⟩
          have HLN : Hid (cs.length = 500 * 3) := by have := hcs.1; rw [secs_len] at this; exact this
          clear hcs hct
          go_wp2_with fail

          refine wp_region_post 14 (R := fun _ => Grew None_) (B := fun _ _ => True) (C := Grew (None_) w7)
            [fun v _ => v = .slice (some ⟨g, 0, none⟩) 500 cl,
              fun v _ => v = .slice (some ⟨g, 0, none⟩) 500 cl,
              fun v _ => v = .int .i64 500,
              fun v _ => v = .slice (some ⟨g, 0, none⟩) 500 cl,
              fun v _ => v = .int .i64 500,
              fun v _ => v = .slice (some ⟨g, 0, none⟩) 500 500,
              fun v w' => TR w' (fun b => w7.heap.size ≤ b) (.mk 1 1 []) v,
              fun v w' => ∃ g d0 d1 d2, v = .slice (some ⟨g, 0, none⟩) 1 1 ∧ w'.heap[g]? = some (.cells #[d0, d1, d2] 25 (0, 0)) ∧ TR w' Any (.mk 1 1 []) (.agg #[d0, d1, d2]),
              fun v w' => TS w' Any (secs 500 ++ [.mk 1 1 []]) v,
              fun v _ => v = .tuple #[.slice none 0 0, .int .i64 2],
              fun v _ => v = .tuple #[.slice none 0 0, .int .i64 2],
              fun v _ => v = .slice none 0 0,
              fun v _ => v = .int .i64 2,
              fun v _ => v = .slice none 0 0]
            [[], [], [1], [], [3], [0, 2, 4], [], [6], [5, 7], [8], [9], [10], [10], [11]] (by kernel_rfl) (by kernel_rfl) (by kernel_rfl) (fun _ _ _ _ h h' => h.trans h') ?_ (fun _ _ _ _ _ _ _ _ _ _ _ => trivial) (Grew.drew _ _) (fun _ _ => trivial) ?_ ?_
          · intro i j v w1 w2 _ _ _ hg
            refine lasts ?_ j v
            simp only [List.forall_mem_cons, List.not_mem_nil, false_implies, implies_true, and_true]
            refine ⟨fun _ h => h, fun _ h => h, fun _ h => h, fun _ h => h, fun _ h => h, fun _ h => h, fun _ h => h.grew hg fun _ _ h => h.elim, fun _ ⟨g, d0, d1, d2, e, h2, h3⟩ => ⟨g, d0, d1, d2, e, hg.heap h2 fun h => h.elim, h3.grew hg fun _ _ h => h.elim⟩, fun _ h => h.grew hg fun _ _ h => h.elim, fun _ h => h, fun _ h => h, fun _ h => h, fun _ h => h, fun _ h => h⟩
          · intro vals
            simp only [List.take_succ_cons, List.take_zero, Steps_, List.headD_cons, List.tail_cons, List.forall_mem_cons, List.not_mem_nil, false_implies, implies_true, and_true, List.getD_cons_zero, List.getD_cons_succ, Act.put, List.setIfInBounds_toArray, List.set_cons_zero, List.set_cons_succ, Nat.zero_add, Nat.reduceAdd]
            refine ⟨?_, ?_, ?_, ?_, ?_, ?_, ?_, ?_, ?_, ?_, ?_, ?_, ?_, ?_⟩
            · rintro w1 hC _ _
              go_wp2_with fail
              exact ⟨_, rfl, Grew.refl _ _, rfl⟩
            · rintro w1 hC _ _
              go_wp2_with fail
              exact ⟨_, rfl, Grew.refl _ _, rfl⟩
            · rintro w1 hC _ h1
              rw [h1]
              go_wp2_with fail
              exact ⟨_, rfl, Grew.refl _ _, rfl⟩
            · rintro w1 hC _ _
              go_wp2_with fail
              exact ⟨_, rfl, Grew.refl _ _, rfl⟩
            · rintro w1 hC _ h3
              rw [h3]
              go_wp2_with fail
              exact ⟨_, rfl, Grew.refl _ _, rfl⟩
            · rintro w1 hC _ ⟨h0, h2, h4⟩
              rw [h0, h2, h4]
              go_wp2_with fail
              exact ⟨_, rfl, Grew.refl _ _, rfl⟩
            · rintro w1 hC _ _
              have HC := Lib.hid hC
              go_wp2_with (go_at_call 29; refine (cd1 _ (HTab7.out.bel HC.out.all)).mono ?_; rintro e w2 ⟨v2, rfl, hT2, hb2⟩)
              exact ⟨_, rfl, Grew.of_below hb2, hT2.mono fun b hb _ => Nat.le_trans HC.out.size hb⟩
            · rintro w1 hC _ h6
              obtain ⟨A4, cc4, e4⟩ := h6.form3
              rw [e4] at h6 ⊢
              have H4 := Lib.hid h6
              clear h6
              go_wp2_with fail
              exact ⟨_, rfl, Grew.alloc _ _ _, w1.heap.size, _, _, _, rfl, heap_alloc_new _ _, (H4.out.any).bel (bself _ _)⟩
            · rintro w1 hC _ ⟨h5, h7⟩
              obtain ⟨g7, e0, e1, e2, x7, hh7, hT7⟩ := h7
              rw [x7]
              have HC := Lib.hid hC.all
              have HH7 := Lib.hid hh7
              have HT7 := Lib.hid hT7
              have HCS1 := Lib.hid (HCS.out _ HC.out)
              clear hh7 hT7
              rw [h5]
              go_wp2_with (at_builtin; refine wpList_append_grows _ rfl _ _ 22 rfl 25 i0 _ 3 40 Tryd.underlying22 hi hz0 hz1 hz2 rfl (by decide) (some ⟨g, 0, none⟩) 500 500 cs rfl (fun h => by cases h) HLN.out (fun b hb j u hj => by cases hb; exact HCS1.out.cells (g := g) rfl j u hj) ⟨g7, 0, none⟩ 1 1 [e0, e1, e2] rfl rfl (news3 HH7.out) (one3 HT7.out) (by omega) (by unfold maxLen; omega) (by omega) ?_; intro v9 w9 hown9 hg9; have HOW9 := Lib.hid hown9; have HG9 := Lib.hid hg9; clear hown9 hg9)
              have HB9 : Hid (Below w1.heap.size w1 w9) := (Grew.of_grownBy (S := None_) HG9.out (fun k hk => by cases hk)).all
              exact ⟨_, rfl, Grew.of_below HB9.out, CT.ts (base := w1.heap.size) (D := Any) (cs := cs ++ [e0, e1, e2]) (by have := HOW9.out; simpa [secs_len] using this) (((HCT.out.bel HC.out).bel HB9.out).snoc (by rw [secs_len]; exact HLN.out) (HT7.out.bel HB9.out))⟩
            · rintro w1 hC _ h8
              have hln := Learn_no _ _ w1 (secs_mayn _) h8
              clear h8
              go_wp2_with (go_at_call 24; refine hln.mono ?_; rintro e w2 ⟨rfl, hb2⟩)
              exact ⟨_, rfl, Grew.of_below hb2, rfl⟩
            · rintro w1 hC _ h9
              rw [h9]
              go_wp2_with fail
              exact ⟨_, rfl, Grew.refl _ _, rfl⟩
            · rintro w1 hC _ h10
              rw [h10]
              go_wp2_with fail
              exact ⟨_, rfl, Grew.refl _ _, rfl⟩
            · rintro w1 hC _ h10
              rw [h10]
              go_wp2_with fail
              exact ⟨_, rfl, Grew.refl _ _, rfl⟩
            · rintro w1 hC _ h11
              rw [h11]
              go_wp2_with fail
              exact ⟨_, rfl, Grew.refl _ _, rfl⟩
          · intro vals w1 hC hv
            have x0 : vals 0 = .slice (some ⟨g, 0, none⟩) 500 cl := hv 0 (by omega)
            have x1 : vals 1 = .slice (some ⟨g, 0, none⟩) 500 cl := hv 1 (by omega)
            have x2 : vals 2 = .int .i64 500 := hv 2 (by omega)
            have x3 : vals 3 = .slice (some ⟨g, 0, none⟩) 500 cl := hv 3 (by omega)
            have x4 : vals 4 = .int .i64 500 := hv 4 (by omega)
            have x5 : vals 5 = .slice (some ⟨g, 0, none⟩) 500 500 := hv 5 (by omega)
            have x9 : vals 9 = .tuple #[.slice none 0 0, .int .i64 2] := hv 9 (by omega)
            have x10 : vals 10 = .tuple #[.slice none 0 0, .int .i64 2] := hv 10 (by omega)
            have x11 : vals 11 = .slice none 0 0 := hv 11 (by omega)
            have x12 : vals 12 = .int .i64 2 := hv 12 (by omega)
            have x13 : vals 13 = .slice none 0 0 := hv 13 (by omega)
            simp only [List.take_succ_cons, List.take_zero, List.drop_succ_cons, List.drop_zero, List.drop_nil, lexA, Act.put, List.setIfInBounds_toArray, List.set_cons_zero, List.set_cons_succ, Nat.zero_add, Nat.reduceAdd, x0, x1, x2, x3, x4, x5, x9, x10, x11, x12, x13]
            clear x0 x1 x2 x3 x4 x5 x9 x10 x11 x12 x13 hv
            generalize vals 6 = z6
            generalize vals 7 = z7
            generalize vals 8 = z8
            have HB8 : Hid (Below W6.heap.size W6 w1) := bthen HB67.out hC.all
            clear HCT HCS HLN HO7
            go_upto_region 14 with fail
            obtain ⟨W8, hW8⟩ : ∃ W, W = w1 := ⟨_, rfl⟩
            rw [← hW8] at HB8 ⊢
            clear hW8 hC
            have H18 := Lib.hid ((HB8.out.block _ (Array.getElem?_eq_some_iff.1 H1.out).1).trans H1.out)
            have H38 := Lib.hid ((HB8.out.block _ (Array.getElem?_eq_some_iff.1 H3.out).1).trans H3.out)
            have HT8 := Lib.hid (HT6.out.bel HB8.out)
            have HU8 := Lib.hid (HU6.out.bel HB8.out)
            have HTab8 := Lib.hid (HTab6.out.bel HB8.out)
            have HBW8 := Lib.hid (bthen HBW6.out HB8.out)
            go_wp2_with fail
            refine wp_region_post4 [[], [0], [0, 1], [0, 1, 2], [0, 1, 2, 3], [0, 1, 2, 3, 4], [0, 1, 2, 3, 4, 5], [0, 1, 2, 3, 4, 5, 6], [0, 1, 2, 3, 4, 5, 6, 7], [0, 1, 2, 3, 4, 5, 6, 7, 8], [0, 1, 2, 3, 4, 5, 6, 7, 8, 9], [0, 1, 2, 3, 4, 5, 6, 7, 8, 9, 10], [0, 1, 2, 3, 4, 5, 6, 7, 8, 9, 10, 11], [0, 1, 2, 3, 4, 5, 6, 7, 8, 9, 10, 11, 12], [0, 1, 2, 3, 4, 5, 6, 7, 8, 9, 10, 11, 12, 13], [0, 1, 2, 3, 4, 5, 6, 7, 8, 9, 10, 11, 12, 13, 14], [0, 1, 2, 3, 4, 5, 6, 7, 8, 9, 10, 11, 12, 13, 14, 15], [0, 1, 2, 3, 4, 5, 6, 7, 8, 9, 10, 11, 12, 13, 14, 15, 16], [0, 1, 2, 3, 4, 5, 6, 7, 8, 9, 10, 11, 12, 13, 14, 15, 16, 17], [0, 1, 2, 3, 4, 5, 6, 7, 8, 9, 10, 11, 12, 13, 14, 15, 16, 17, 18], [0, 1, 2, 3, 4, 5, 6, 7, 8, 9, 10, 11, 12, 13, 14, 15, 16, 17, 18, 19], [0, 1, 2, 3, 4, 5, 6, 7, 8, 9, 10, 11, 12, 13, 14, 15, 16, 17, 18, 19, 20], [0, 1, 2, 3, 4, 5, 6, 7, 8, 9, 10, 11, 12, 13, 14, 15, 16, 17, 18, 19, 20, 21], [0, 1, 2, 3, 4, 5, 6, 7, 8, 9, 10, 11, 12, 13, 14, 15, 16, 17, 18, 19, 20, 21, 22], [0, 1, 2, 3, 4, 5, 6, 7, 8, 9, 10, 11, 12, 13, 14, 15, 16, 17, 18, 19, 20, 21, 22], [0, 1, 2, 3, 4, 5, 6, 7, 8, 9, 10, 11, 12, 13, 14, 15, 16, 17, 18, 19, 20, 21, 22, 24], [0, 1, 2, 3, 4, 5, 6, 7, 8, 9, 10, 11, 12, 13, 14, 15, 16, 17, 18, 19, 20, 21, 22, 23, 24, 25], [0, 1, 2, 3, 4, 5, 6, 7, 8, 9, 10, 11, 12, 13, 14, 15, 16, 17, 18, 19, 20, 21, 22, 23, 24, 25, 26], [0, 1, 2, 3, 4, 5, 6, 7, 8, 9, 10, 11, 12, 13, 14, 15, 16, 17, 18, 19, 20, 21, 22, 23, 24, 25, 26, 27], [0, 1, 2, 3, 4, 5, 6, 7, 8, 9, 10, 11, 12, 13, 14, 15, 16, 17, 18, 19, 20, 21, 22, 23, 24, 25, 26, 27, 28], [0, 1, 2, 3, 4, 5, 6, 7, 8, 9, 10, 11, 12, 13, 14, 15, 16, 17, 18, 19, 20, 21, 22, 23, 24, 25, 26, 27, 28, 29], [0, 1, 2, 3, 4, 5, 6, 7, 8, 9, 10, 11, 12, 13, 14, 15, 16, 17, 18, 19, 20, 21, 22, 23, 24, 25, 26, 27, 28, 29], [0, 1, 2, 3, 4, 5, 6, 7, 8, 9, 10, 11, 12, 13, 14, 15, 16, 17, 18, 19, 20, 21, 22, 23, 24, 25, 26, 27, 28, 29, 31], [0, 1, 2, 3, 4, 5, 6, 7, 8, 9, 10, 11, 12, 13, 14, 15, 16, 17, 18, 19, 20, 21, 22, 23, 24, 25, 26, 27, 28, 29, 30, 31, 32], [0, 1, 2, 3, 4, 5, 6, 7, 8, 9, 10, 11, 12, 13, 14, 15, 16, 17, 18, 19, 20, 21, 22, 23, 24, 25, 26, 27, 28, 29, 30, 31, 32, 33], [0, 1, 2, 3, 4, 5, 6, 7, 8, 9, 10, 11, 12, 13, 14, 15, 16, 17, 18, 19, 20, 21, 22, 23, 24, 25, 26, 27, 28, 29, 30, 31, 32, 33, 34], [0, 1, 2, 3, 4, 5, 6, 7, 8, 9, 10, 11, 12, 13, 14, 15, 16, 17, 18, 19, 20, 21, 22, 23, 24, 25, 26, 27, 28, 29, 30, 31, 32, 33, 34, 35], [0, 1, 2, 3, 4, 5, 6, 7, 8, 9, 10, 11, 12, 13, 14, 15, 16, 17, 18, 19, 20, 21, 22, 23, 24, 25, 26, 27, 28, 29, 30, 31, 32, 33, 34, 35, 36], [0, 1, 2, 3, 4, 5, 6, 7, 8, 9, 10, 11, 12, 13, 14, 15, 16, 17, 18, 19, 20, 21, 22, 23, 24, 25, 26, 27, 28, 29, 30, 31, 32, 33, 34, 35, 36, 37]] 38 (R := fun _ => Grew None_) (B := fun _ _ => True) (C := Grew (None_) W8)
              [fun v _ => v = .agg #[.int .i64 (hashT 1999).k, .int .i64 (hashT 1999).n, .slice A (hashT 1999).args.length c],
                fun v _ => v = .bool true,
                fun v _ => v = .bool true,
                fun v _ => v = .agg #[.int .i64 9, .int .i64 0, .slice (some ⟨wold.heap.size, 0, none⟩) 1 1],
                fun v _ => v = .bool false,
                fun v _ => v = .bool true,
                fun v _ => v = .bool true,
                fun v _ => v = .bool true,
                fun v _ => v = .int .i64 0,
                fun v _ => v = .int .i64 0,
                fun v _ => v = .bool true,
                fun v _ => v = .bool true,
                fun v _ => v = .bool true,
                fun v _ => v = .slice Ax 500 cx,
                fun v _ => v = .int .i64 500,
                fun v _ => v = .bool true,
                fun v _ => v = .bool true,
                fun v _ => v = .bool true,
                fun v _ => v = .int .i64 2,
                fun v _ => v = .int .i64 2,
                fun v _ => v = .bool true,
                fun v _ => v = .bool true,
                fun v _ => v = .bool true,
                fun v _ => v = .agg #[.int .i64 9, .int .i64 0, .slice (some ⟨wold.heap.size, 0, none⟩) 1 1],
                fun v w' => TR w' (fun b => W8.heap.size ≤ b) (sT 1) v,
                fun v w' => TS w' Any [sT 1] v,
                fun v _ => v = .bool false,
                fun v _ => v = .bool true,
                fun v _ => v = .bool true,
                fun v _ => v = .bool true,
                fun v _ => v = .agg #[.int .i64 (hashT 1999).k, .int .i64 (hashT 1999).n, .slice A (hashT 1999).args.length c],
                fun v w' => TR w' (fun b => W8.heap.size ≤ b) (sT 1) v,
                fun v w' => TS w' Any [sT 1] v,
                fun v _ => v = .bool true,
                fun v _ => v = .bool true,
                fun v _ => v = .bool true,
                fun v _ => v = .bool true,
                fun v _ => v = .bool true]
              [[], [0], [1], [2], [2, 3], [2, 4], [2, 5], [6], [7], [7, 8], [7, 9], [7, 10], [11], [12], [12, 13], [12, 14], [12, 15], [16], [17], [17, 18], [17, 19], [17, 20], [21], [22], [22], [22, 24], [22, 23, 25], [22, 26], [22, 27], [28], [29], [29], [29, 31], [29, 30, 32], [29, 33], [34], [35], [35, 36]] (by kernel_rfl) (by kernel_rfl) (by kernel_rfl) (fun _ _ _ _ h h' => h.trans h') ?_ (fun _ _ _ _ _ _ _ _ _ _ _ => trivial) (Grew.drew _ _) (fun _ _ => trivial) ?_ ?_
            · intro i j v w1 w2 _ _ _ hg
              refine lasts ?_ j v
              simp only [List.forall_mem_cons, List.not_mem_nil, false_implies, implies_true, and_true]
              refine ⟨fun _ h => h, fun _ h => h, fun _ h => h, fun _ h => h, fun _ h => h, fun _ h => h, fun _ h => h, fun _ h => h, fun _ h => h, fun _ h => h, fun _ h => h, fun _ h => h, fun _ h => h, fun _ h => h, fun _ h => h, fun _ h => h, fun _ h => h, fun _ h => h, fun _ h => h, fun _ h => h, fun _ h => h, fun _ h => h, fun _ h => h, fun _ h => h, fun _ h => h.grew hg fun _ _ h => h.elim, fun _ h => h.grew hg fun _ _ h => h.elim, fun _ h => h, fun _ h => h, fun _ h => h, fun _ h => h, fun _ h => h, fun _ h => h.grew hg fun _ _ h => h.elim, fun _ h => h.grew hg fun _ _ h => h.elim, fun _ h => h, fun _ h => h, fun _ h => h, fun _ h => h, fun _ h => h⟩
            · intro vals
              simp only [List.take_succ_cons, List.take_zero, Steps_, List.headD_cons, List.tail_cons, List.forall_mem_cons, List.not_mem_nil, false_implies, implies_true, and_true, List.getD_cons_zero, List.getD_cons_succ, Act.put, List.setIfInBounds_toArray, List.set_cons_zero, List.set_cons_succ, Nat.zero_add, Nat.reduceAdd]
              refine ⟨?_, ?_, ?_, ?_, ?_, ?_, ?_, ?_, ?_, ?_, ?_, ?_, ?_, ?_, ?_, ?_, ?_, ?_, ?_, ?_, ?_, ?_, ?_, ?_, ?_, ?_, ?_, ?_, ?_, ?_, ?_, ?_, ?_, ?_, ?_, ?_, ?_, ?_⟩
              · rintro w1 hC _ _
                obtain ⟨q0, q1, q2, _, _, _⟩ := cell3_load (hC.heap H18.out fun h => h.elim)
                go_wp2_with fail
                exact ⟨_, rfl, Grew.refl _ _, rfl⟩
              · rintro w1 hC _ h0
                rw [h0]
                have hmy := may_any (hashT 1999) _ w1 (HT8.out.bel hC.all)
                rw [hash_may (Nat.le_refl _)] at hmy
                go_wp2_with (go_at_call 30; refine (hmy).mono ?_; rintro e w2 ⟨rfl, hb2⟩)
                exact ⟨_, rfl, Grew.of_below hb2, rfl⟩
              · rintro w1 hC _ h1
                rw [h1]
                go_wp2_with fail
                exact ⟨_, rfl, Grew.refl _ _, rfl⟩
              · rintro w1 hC _ h2
                obtain ⟨q0, q1, q2, _, _, _⟩ := cell3_load (hC.heap H38.out fun h => h.elim)
                rw [h2]
                go_wp2_with fail
                exact ⟨_, rfl, Grew.refl _ _, rfl⟩
              · rintro w1 hC _ ⟨h2, h3⟩
                rw [h2, h3]
                have hmy := may_any (hashT 2000) _ w1 (HU8.out.bel hC.all)
                rw [hash_mayn (Nat.le_refl _)] at hmy
                go_wp2_with (go_at_call 30; refine (hmy).mono ?_; rintro e w2 ⟨rfl, hb2⟩)
                exact ⟨_, rfl, Grew.of_below hb2, rfl⟩
              · rintro w1 hC _ ⟨h2, h4⟩
                rw [h2, h4]
                go_wp2_with fail
                exact ⟨_, rfl, Grew.refl _ _, rfl⟩
              · rintro w1 hC _ ⟨h2, h5⟩
                rw [h2, h5]
                go_wp2_with fail
                exact ⟨_, rfl, Grew.refl _ _, rfl⟩
              · rintro w1 hC _ h6
                rw [h6]
                go_wp2_with fail
                exact ⟨_, rfl, Grew.refl _ _, rfl⟩
              · rintro w1 hC _ h7
                rw [h7]
                go_wp2_with fail
                exact ⟨_, rfl, Grew.refl _ _, rfl⟩
              · rintro w1 hC _ ⟨h7, h8⟩
                rw [h7, h8]
                go_wp2_with (go_at_call 25; refine (num9_any _ _).mono ?_; rintro e w2 ⟨rfl, rfl⟩)
                exact ⟨_, rfl, Grew.refl _ _, rfl⟩
              · rintro w1 hC _ ⟨h7, h9⟩
                rw [h7, h9]
                go_wp2_with fail
                exact ⟨_, rfl, Grew.refl _ _, rfl⟩
              · rintro w1 hC _ ⟨h7, h10⟩
                rw [h7, h10]
                go_wp2_with fail
                exact ⟨_, rfl, Grew.refl _ _, rfl⟩
              · rintro w1 hC _ h11
                rw [h11]
                go_wp2_with fail
                exact ⟨_, rfl, Grew.refl _ _, rfl⟩
              · rintro w1 hC _ h12
                rw [h12]
                go_wp2_with fail
                exact ⟨_, rfl, Grew.refl _ _, rfl⟩
              · rintro w1 hC _ ⟨h12, h13⟩
                rw [h12, h13]
                go_wp2_with fail
                exact ⟨_, rfl, Grew.refl _ _, rfl⟩
              · rintro w1 hC _ ⟨h12, h14⟩
                rw [h12, h14]
                go_wp2_with fail
                exact ⟨_, rfl, Grew.refl _ _, rfl⟩
              · rintro w1 hC _ ⟨h12, h15⟩
                rw [h12, h15]
                go_wp2_with fail
                exact ⟨_, rfl, Grew.refl _ _, rfl⟩
              · rintro w1 hC _ h16
                rw [h16]
                go_wp2_with fail
                exact ⟨_, rfl, Grew.refl _ _, rfl⟩
              · rintro w1 hC _ h17
                rw [h17]
                go_wp2_with fail
                exact ⟨_, rfl, Grew.refl _ _, rfl⟩
              · rintro w1 hC _ ⟨h17, h18⟩
                rw [h17, h18]
                go_wp2_with (go_at_call 25; refine (num9_any _ _).mono ?_; rintro e w2 ⟨rfl, rfl⟩)
                exact ⟨_, rfl, Grew.refl _ _, rfl⟩
              · rintro w1 hC _ ⟨h17, h19⟩
                rw [h17, h19]
                go_wp2_with fail
                exact ⟨_, rfl, Grew.refl _ _, rfl⟩
              · rintro w1 hC _ ⟨h17, h20⟩
                rw [h17, h20]
                go_wp2_with fail
                exact ⟨_, rfl, Grew.refl _ _, rfl⟩
              · rintro w1 hC _ h21
                rw [h21]
                go_wp2_with fail
                exact ⟨_, rfl, Grew.refl _ _, rfl⟩
              · rintro w1 hC _ h22
                obtain ⟨q0, q1, q2, _, _, _⟩ := cell3_load (hC.heap H38.out fun h => h.elim)
                rw [h22]
                go_wp2_with fail
                exact ⟨_, rfl, Grew.refl _ _, rfl⟩
              · rintro w1 hC _ h22
                rw [h22]
                have HC := Lib.hid hC
                go_wp2_with (go_at_call 29; refine (cx1 _ (HTab8.out.bel HC.out.all)).mono ?_; rintro e w2 ⟨v2, rfl, hT2, hb2⟩)
                exact ⟨_, rfl, Grew.of_below hb2, hT2.mono fun b hb _ => Nat.le_trans HC.out.size hb⟩
              · rintro w1 hC _ ⟨h22, h24⟩
                obtain ⟨A4, cc4, e4⟩ := h24.form3
                rw [e4] at h24 ⊢
                have H4 := Lib.hid h24.any
                clear h24
                rw [h22]
                go_wp2_with fail
                exact ⟨_, rfl, Grew.alloc _ _ _, TS.one_ (heap_alloc_new _ _) trivial (H4.out.bel (bself _ _))⟩
              · rintro w1 hC _ ⟨h22, h23, h25⟩
                rw [h22, h23]
                have hcn := Can_any (hashT 2000) [sT 1] _ _ w1 (HU8.out.bel hC.all) h25 (HTab8.out.bel hC.all)
                rw [hash_cann] at hcn
                clear h25
                go_wp2_with (go_at_call 17; refine hcn.mono ?_; rintro e w2 ⟨rfl, hb2⟩)
                exact ⟨_, rfl, Grew.of_below hb2, rfl⟩
              · rintro w1 hC _ ⟨h22, h26⟩
                rw [h22, h26]
                go_wp2_with fail
                exact ⟨_, rfl, Grew.refl _ _, rfl⟩
              · rintro w1 hC _ ⟨h22, h27⟩
                rw [h22, h27]
                go_wp2_with fail
                exact ⟨_, rfl, Grew.refl _ _, rfl⟩
              · rintro w1 hC _ h28
                rw [h28]
                go_wp2_with fail
                exact ⟨_, rfl, Grew.refl _ _, rfl⟩
              · rintro w1 hC _ h29
                obtain ⟨q0, q1, q2, _, _, _⟩ := cell3_load (hC.heap H18.out fun h => h.elim)
                rw [h29]
                go_wp2_with fail
                exact ⟨_, rfl, Grew.refl _ _, rfl⟩
              · rintro w1 hC _ h29
                rw [h29]
                have HC := Lib.hid hC
                go_wp2_with (go_at_call 29; refine (cx1 _ (HTab8.out.bel HC.out.all)).mono ?_; rintro e w2 ⟨v2, rfl, hT2, hb2⟩)
                exact ⟨_, rfl, Grew.of_below hb2, hT2.mono fun b hb _ => Nat.le_trans HC.out.size hb⟩
              · rintro w1 hC _ ⟨h29, h31⟩
                obtain ⟨A4, cc4, e4⟩ := h31.form3
                rw [e4] at h31 ⊢
                have H4 := Lib.hid h31.any
                clear h31
                rw [h29]
                go_wp2_with fail
                exact ⟨_, rfl, Grew.alloc _ _ _, TS.one_ (heap_alloc_new _ _) trivial (H4.out.bel (bself _ _))⟩
              · rintro w1 hC _ ⟨h29, h30, h32⟩
                rw [h29, h30]
                have hcn := Can_any (hashT 1999) [sT 1] _ _ w1 (HT8.out.bel hC.all) h32 (HTab8.out.bel hC.all)
                rw [hash_can (Nat.le_refl _)] at hcn
                clear h32
                go_wp2_with (go_at_call 17; refine hcn.mono ?_; rintro e w2 ⟨rfl, hb2⟩)
                exact ⟨_, rfl, Grew.of_below hb2, rfl⟩
              · rintro w1 hC _ ⟨h29, h33⟩
                rw [h29, h33]
                go_wp2_with fail
                exact ⟨_, rfl, Grew.refl _ _, rfl⟩
              · rintro w1 hC _ h34
                rw [h34]
                go_wp2_with fail
                exact ⟨_, rfl, Grew.refl _ _, rfl⟩
              · rintro w1 hC _ h35
                rw [h35]
                have hkn := known_any w1 (HTab8.out.bel hC.all)
                go_wp2_with (go_at_call 12; refine (hkn).mono ?_; rintro e w2 ⟨rfl, hb2⟩)
                exact ⟨_, rfl, Grew.of_below hb2, rfl⟩
              · rintro w1 hC _ ⟨h35, h36⟩
                rw [h35, h36]
                go_wp2_with fail
                exact ⟨_, rfl, Grew.refl _ _, rfl⟩
            · intro vals w1 hC hv
              have x0 : vals 0 = .agg #[.int .i64 (hashT 1999).k, .int .i64 (hashT 1999).n, .slice A (hashT 1999).args.length c] := hv 0 (by omega)
              have x1 : vals 1 = .bool true := hv 1 (by omega)
              have x2 : vals 2 = .bool true := hv 2 (by omega)
              have x3 : vals 3 = .agg #[.int .i64 9, .int .i64 0, .slice (some ⟨wold.heap.size, 0, none⟩) 1 1] := hv 3 (by omega)
              have x4 : vals 4 = .bool false := hv 4 (by omega)
              have x5 : vals 5 = .bool true := hv 5 (by omega)
              have x6 : vals 6 = .bool true := hv 6 (by omega)
              have x7 : vals 7 = .bool true := hv 7 (by omega)
              have x8 : vals 8 = .int .i64 0 := hv 8 (by omega)
              have x9 : vals 9 = .int .i64 0 := hv 9 (by omega)
              have x10 : vals 10 = .bool true := hv 10 (by omega)
              have x11 : vals 11 = .bool true := hv 11 (by omega)
              have x12 : vals 12 = .bool true := hv 12 (by omega)
              have x13 : vals 13 = .slice Ax 500 cx := hv 13 (by omega)
              have x14 : vals 14 = .int .i64 500 := hv 14 (by omega)
              have x15 : vals 15 = .bool true := hv 15 (by omega)
              have x16 : vals 16 = .bool true := hv 16 (by omega)
              have x17 : vals 17 = .bool true := hv 17 (by omega)
              have x18 : vals 18 = .int .i64 2 := hv 18 (by omega)
              have x19 : vals 19 = .int .i64 2 := hv 19 (by omega)
              have x20 : vals 20 = .bool true := hv 20 (by omega)
              have x21 : vals 21 = .bool true := hv 21 (by omega)
              have x22 : vals 22 = .bool true := hv 22 (by omega)
              have x23 : vals 23 = .agg #[.int .i64 9, .int .i64 0, .slice (some ⟨wold.heap.size, 0, none⟩) 1 1] := hv 23 (by omega)
              have x26 : vals 26 = .bool false := hv 26 (by omega)
              have x27 : vals 27 = .bool true := hv 27 (by omega)
              have x28 : vals 28 = .bool true := hv 28 (by omega)
              have x29 : vals 29 = .bool true := hv 29 (by omega)
              have x30 : vals 30 = .agg #[.int .i64 (hashT 1999).k, .int .i64 (hashT 1999).n, .slice A (hashT 1999).args.length c] := hv 30 (by omega)
              have x33 : vals 33 = .bool true := hv 33 (by omega)
              have x34 : vals 34 = .bool true := hv 34 (by omega)
              have x35 : vals 35 = .bool true := hv 35 (by omega)
              have x36 : vals 36 = .bool true := hv 36 (by omega)
              have x37 : vals 37 = .bool true := hv 37 (by omega)
              simp only [List.take_succ_cons, List.take_zero, List.drop_succ_cons, List.drop_zero, List.drop_nil, lexA, Act.put, List.setIfInBounds_toArray, List.set_cons_zero, List.set_cons_succ, Nat.zero_add, Nat.reduceAdd, x0, x1, x2, x3, x4, x5, x6, x7, x8, x9, x10, x11, x12, x13, x14, x15, x16, x17, x18, x19, x20, x21, x22, x23, x26, x27, x28, x29, x30, x33, x34, x35, x36, x37]
              clear x0 x1 x2 x3 x4 x5 x6 x7 x8 x9 x10 x11 x12 x13 x14 x15 x16 x17 x18 x19 x20 x21 x22 x23 x26 x27 x28 x29 x30 x33 x34 x35 x36 x37 hv
              have HBE := Lib.hid (bthen HBW8.out hC.all)
              generalize vals 24 = z24
              generalize vals 25 = z25
              generalize vals 31 = z31
              generalize vals 32 = z32
              go_wp2_with fail
              go_ret
              exact ⟨rfl, HBE.out⟩
end Go.Proofs.YtfhpnkmhppfeiaaDoor
