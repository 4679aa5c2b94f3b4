/- The closure can. -/
import Derived.Test.YtfhpnkmhppfeiaaDoorA9
set_option linter.unusedVariables false
set_option linter.unusedSimpArgs false
namespace Go.Proofs.YtfhpnkmhppfeiaaDoor
open Go.RowKit Go.Proofs
theorem info4 : (Tryd.prog.info? 4).map (fun i => (i.zero, i.size, i.bytes)) = some (some (.bool false), 1, 1) := by kernel_rfl
theorem own_grew {w w1 : World} {base : Nat} {e : TypeId} {size : Nat} {v : Value} {n : Nat} {xs : List Value} {S : Nat → Prop} (h : w.ownsRow base e size v n xs) (hb : Grew S w w1) (hs : ∀ k, v.ownBlock = some k → ¬ S k) : w1.ownsRow base e size v n xs := by
  refine ⟨h.1, ?_⟩
  rcases h.2 with hn | ⟨g, cap, cur, rfl, hg, hh, hrest⟩
  · exact .inl hn
  · exact .inr ⟨g, cap, cur, rfl, hg, hb.heap hh (hs g rfl), hrest⟩
theorem news1 {w : World} {g : Nat} {c : Value} (h : w.cell? ⟨g, 0, none⟩ = some c) : ∀ j u, [c][j]? = some u → w.cell? ((⟨g, 0, none⟩ : Addr).add j) = some u := by
  intro j u hj
  rcases j with _ | j
  · simp at hj; subst hj; rw [addr_add]; exact h
  · simp at hj
theorem take_can {ts args : List Tm} {j : Nat} {a : Tm} (h : args[j]? = some a) : bls (canL ts (args.take (j + 1))) = bls (canL ts (args.take j)) ++ [.bool (canB ts a)] := by
  rw [List.take_add_one, h]; simp [canL_map, bls]
theorem take_txt {args : List Tm} {j : Nat} {a : Tm} (h : args[j]? = some a) : strs (txtL (args.take (j + 1))) = strs (txtL (args.take j)) ++ [.string ⟨(txt a).toArray⟩] := by
  rw [List.take_add_one, h]; simp [txtL_map, strs]
theorem ret_bs {b b' : Bool} {s : ByteArray} (h : b = b') : Ending.returned (.tuple #[.bool b, .string s]) = .returned (.tuple #[.bool b', .string s]) := by cases h; rfl
/-- What the closure captured. -/
structure Env (w : World) (bA bC bK bm m : Nat) (ts : List Tm) : Prop where
  ca : w.cell? ⟨bA, 0, none⟩ = some (.map (some m))
  cc : w.cell? ⟨bC, 0, none⟩ = some (.func (.func 60) #[] #[.pointer (some ⟨bA, 0, none⟩), .pointer (some ⟨bC, 0, none⟩), .pointer (some ⟨bK, 0, none⟩)])
  ck : w.cell? ⟨bK, 0, none⟩ = some (.map (some bm))
  fm : FormsAt w m
  km : KM w Any bm ts
  tab : Tab w
theorem Env.bel {w w' : World} {bA bC bK bm m : Nat} {ts : List Tm} (h : Env w bA bC bK bm m ts) (hb : Below w.heap.size w w') : Env w' bA bC bK bm m ts :=
  ⟨(hb.cell (World.block_lt_of_cell? w _ h.ca)).trans h.ca, (hb.cell (World.block_lt_of_cell? w _ h.cc)).trans h.cc, (hb.cell (World.block_lt_of_cell? w _ h.ck)).trans h.ck, h.fm.bel hb, h.km.bel hb, h.tab.bel hb⟩
set_option maxRecDepth 100000 in
set_option maxHeartbeats 4000000 in
theorem can1_any {bA bC bK bm m : Nat} {ts : List Tm} : ∀ (N : Nat) (t : Tm) (v : Value) (w : World), size t ≤ N → form t = true → size t ≤ 2000 → TR w Any t v → Env w bA bC bK bm m ts →
    Calls Tryd.prog 60 #[v, .pointer (some ⟨bA, 0, none⟩), .pointer (some ⟨bC, 0, none⟩), .pointer (some ⟨bK, 0, none⟩)] w fun e w' => e = .returned (.tuple #[.bool (canB ts t), .string ⟨(txt t).toArray⟩]) ∧ Below w.heap.size w w' := by
  intro N
  induction N with
  | zero => intro t v w h; have := size_pos t; omega
  | succ N ih =>
    rintro ⟨k, n, args⟩ v w hN hf hsz hT hE
    obtain ⟨s, rfl, hk, hn, hS⟩ := hT.inv
    obtain ⟨A, c, rfl, hc1, hc2⟩ := hS.form
    have hshort := txt_short hT.rng hsz
    have ca := hE.ca
    have ck := hE.ck
    have cc := hE.cc
    have la := World.block_lt_of_cell? w _ ca
    have lc := World.block_lt_of_cell? w _ cc
    have lk := World.block_lt_of_cell? w _ ck
    have HF := Lib.hid hf
    have HSZ := Lib.hid hsz
    have HS := Lib.hid hS
    have HN := Lib.hid hN
    have HE := Lib.hid hE
    have HSH := Lib.hid hshort
    clear hf hsz hS hN hT hE hshort
    obtain ⟨p, hp⟩ : ∃ p, p = txt (Tm.mk k n args) := ⟨_, rfl⟩
    rw [← hp]
    obtain ⟨xv, hlf, hlk, hlv⟩ := look_K HE.out.km p
    obtain ⟨xk, xn, xA, xl, xc, rfl, -⟩ := look_kind HE.out.km.1 hlv
    have HLK := Lib.hid hlk
    have HP := Lib.hid hp
    clear hp hlf hlk hlv
    by_cases ha : arity k = 0
    · have hh := headOK_iff.1 (form_head HF.out).1
      obtain rfl : args = [] := List.length_eq_zero_iff.1 (by rw [hh.2.1, ha])
      have hk12 : k = 1 ∨ k = 2 := by
        have := hh.1
        unfold arity at ha
        split at ha
        · omega
        · split at ha <;> omega
      have HP2 : Hid (p = kname k ++ Lib.itoa n) := by rw [HP.out]; exact txt0 hk12
      have HK12 := Lib.hid hk12
      have HA := Lib.hid ha
      clear ha hh hk12
      have fm0 := HE.out.fm.keep (bself w (.cells #[.int .i64 k, .int .i64 n, .slice A 0 c] 25)) HE.out.fm.lt
      go_enter Tryd.func60, Tryd.ntmps60
      go_wp2_with (first | (at_lookup; refine wpList_forms rfl _ _ rfl rfl rfl fm0 ?_; rw [HA.out]))
      refine wp_loop_rounds 1 ?_; rw [rounds_succ]
      obtain ⟨wr, hwr⟩ : ∃ W2 : World, W2 = ((w.alloc (.cells #[.int .i64 k, .int .i64 n, .slice A 0 c] 25)).alloc (.cells #[.string ⟨(kname k).toArray⟩, .int .i64 0] 86)).alloc (.cells #[.slice none 0 0] 64) := ⟨_, rfl⟩
      rw [← hwr]
      have HBW : Hid (Below w.heap.size w wr) := by rw [hwr]; exact balloc (balloc (bself w _) _) _
      have HSW : Hid (w.heap.size + 3 ≤ wr.heap.size) := by rw [hwr]; unfold Hid; simp
      have HA0 : Hid (wr.heap[w.heap.size]? = some (.cells #[.int .i64 k, .int .i64 n, .slice A 0 c] 25 (0, 0))) := by
        rw [hwr]; unfold Hid; rw [Below.heap_alloc _ _ _ (by simp; omega), Below.heap_alloc _ _ _ (by simp)]; exact heap_alloc_new _ _
      have HA1 : Hid (wr.heap[w.heap.size + 1]? = some (.cells #[.string ⟨(kname k).toArray⟩, .int .i64 0] 86 (0, 0))) := by
        rw [hwr]; unfold Hid; rw [Below.heap_alloc _ _ _ (by simp)]; have := heap_alloc_new (w.alloc (.cells #[.int .i64 k, .int .i64 n, .slice A 0 c] 25)) (.cells #[.string ⟨(kname k).toArray⟩, .int .i64 0] 86); simpa using this
      clear hwr
      have l0 : ∀ x : Later wr.heap.size wr, x.w.cell? ⟨w.heap.size + 1, 0, none⟩ = some (.string ⟨(kname k).toArray⟩) := fun x => x.cell ((blk_cell HA1.out 0).trans rfl) (by have := HSW.out; simp; omega)
      have l1 : ∀ x : Later wr.heap.size wr, x.w.cell? ⟨w.heap.size, 1, none⟩ = some (.int .i64 n) := fun x => x.cell ((blk_cell HA0.out 1).trans rfl) (by have := HSW.out; simp; omega)
      have HT2 : Hid (∀ x : Later wr.heap.size wr, Tab x.w) := fun x => HE.out.tab.later HBW.out (by have := HSW.out; omega) x
      have ap : (⟨(kname k).toArray⟩ : ByteArray) ++ ⟨(Lib.itoa n).toArray⟩ = ⟨p.toArray⟩ := by rw [HP2.out]; exact bs_append (kname k) (Lib.itoa n)
      have bz : (kname k).length + (Lib.itoa n).length ≤ 9223372036854775807 := by have := kname_short k; have := itoa_short n hn.1 hn.2; omega
      have z1 := bs_size (kname k)
      have z2 := bs_size (Lib.itoa n)
      go_wp2_with fail
      refine wp_region_later wr.heap.size (by kernel_rfl) ?_
      repeat (first | go_big_quiet_step ((go_at_call 48; exact later_call (itoa_any _ hn _ (HT2.out _)) (by simp))) | quiet_step ((go_at_call 48; exact later_call (itoa_any _ hn _ (HT2.out _)) (by simp))))
      refine wpQuiet_nil (later_all ?_)
      intro wy hx
      have HA0Y := Lib.hid ((hx.block _ (by have := HSW.out; omega)).trans HA0.out)
      have y1 := (blk_cell ((hx.block _ (by have := HSW.out; omega)).trans HA1.out) 1).trans rfl
      have y0 := (blk_cell HA0Y.out 0).trans rfl
      have HBY : Hid (Below w.heap.size w wy) := bthen HBW.out hx
      have hS0 := Nat.le_trans HSW.out hx.size
      have hlt0 : w.heap.size < wy.heap.size := by omega
      have ky := (HBY.out.cell (p := ⟨bK, 0, none⟩) lk).trans ck
      have hlk := HLK.out wy (HBY.out.block bm HE.out.km.lt)
      clear hx l0 l1 ap bz z1 z2
      have hcan : Hid (canB ts (.mk k n []) = (hasT ts p || decide (k = 1))) := by
        unfold Hid
        rw [canB, ← HP.out]
        rcases HK12.out with rfl | rfl <;> simp [canL, shar]
      cases hh : hasT ts p with
      | true =>
        have HH := Lib.hid hh
        rw [hh] at hlk
        clear hh
        go_wp2_with (first | (at_lookup; refine wpList_look rfl _ _ true rfl rfl rfl hlk ?_))
        go_ret2
        exact ⟨ret_bs (by rw [hcan.out, HH.out]; rfl), balloc HBY.out _⟩
      | false =>
        have HH := Lib.hid hh
        rw [hh] at hlk
        clear hh
        rcases HK12.out with rfl | rfl
        · go_wp2_with (first | (at_lookup; refine wpList_look rfl _ _ true rfl rfl rfl hlk ?_))
          go_ret2
          exact ⟨ret_bs (by rw [hcan.out, HH.out]; rfl), balloc HBY.out _⟩
        · go_wp2_with (first | (at_lookup; refine wpList_look rfl _ _ true rfl rfl rfl hlk ?_))
          go_ret2
          exact ⟨ret_bs (by rw [hcan.out, HH.out]; rfl), balloc HBY.out _⟩
    · have hlen := (headOK_iff.1 (form_head HF.out).1).2.1
      have har : (((arity k : Nat) : Int) > 0) := by omega
      have hl3 : args.length ≤ 1000 := by have := (form_head HF.out).1; rw [hlen]; unfold arity; repeat' split
                                          all_goals omega
      have HA := Lib.hid ha
      have HL := Lib.hid hlen
      clear ha hlen
      obtain ⟨i4, hi4, hz40, hz41, hz42⟩ := info_parts info4
      obtain ⟨i9, hi9, hz90, hz91, hz92⟩ := info_parts info9
      have fm0 := HE.out.fm.keep (bself w (.cells #[.int .i64 k, .int .i64 n, .slice A args.length c] 25)) HE.out.fm.lt
      go_enter Tryd.func60, Tryd.ntmps60
      go_wp2_with (first | (at_lookup; refine wpList_forms rfl _ _ rfl rfl rfl fm0 ?_))
      obtain ⟨W2, hW2⟩ : ∃ W2 : World, W2 = ((w.alloc (.cells #[.int .i64 k, .int .i64 n, .slice A args.length c] 25)).alloc (.cells #[.string ⟨(kname k).toArray⟩, .int .i64 (arity k)] 86)).alloc (.cells #[.slice none 0 0] 64) := ⟨_, rfl⟩
      rw [← hW2]
      have HW2 := Lib.hid hW2
      clear hW2
      have HB2 : Hid (Below w.heap.size w W2) := by rw [HW2.out]; exact balloc (balloc (bself w _) _) _
      have HS2 : Hid (W2.heap.size = w.heap.size + 3) := by rw [HW2.out]; unfold Hid; simp
      have HO2 : Hid (W2.heap[w.heap.size + 2]? = some (.cells #[.slice none 0 0] 64 (0, 0))) := by rw [HW2.out]; unfold Hid; have := heap_alloc_new ((w.alloc (.cells #[.int .i64 k, .int .i64 n, .slice A args.length c] 25)).alloc (.cells #[.string ⟨(kname k).toArray⟩, .int .i64 (arity k)] 86)) (.cells #[.slice none 0 0] 64); simpa using this
      go_loopw [8, 25] (fun mv i wr => ∃ (j : Nat) (lv : Value), i = .int .i64 j ∧ j ≤ args.length ∧ Hid (wr.ownsRow (w.heap.size + 3) 4 1 mv j (bls (canL ts (args.take j)))) ∧ Hid (wr.ownsRow (w.heap.size + 3) 9 1 lv j (strs (txtL (args.take j)))) ∧
        Hid (∀ k, mv.ownBlock = some k → ¬ lv.ownBlock = some k) ∧ Hid (wr.heap[w.heap.size + 2]? = some (.cells #[lv] 64 (0, 0))) ∧ Hid (Below (w.heap.size + 2) W2 wr)) (fun _ i _ => args.length - (intOf i).toNat)
      case atStart => exact ⟨0, .slice none 0 0, rfl, Nat.zero_le _, World.ownsRow_nil _ _ _ _, World.ownsRow_nil _ _ _ _, fun k e => by simp [Value.ownBlock] at e, HO2.out, Below.refl _ _⟩
      case round =>
        obtain ⟨j, lv, rfl, hj, HOM, HRL, HNE, HOL, hb⟩ := hrel
        by_cases hlt : j < args.length
        · obtain ⟨a, ha⟩ : ∃ a, args[j]? = some a := ⟨_, List.getElem?_eq_getElem hlt⟩
          obtain ⟨b, o, A2, cc', rfl, _, hbs, c0, c1, c2, hTa⟩ := HS.out.at_ ha
          have hbw : Below w.heap.size w wr := HB2.out.trans (hb.out.mono (by omega))
          have d0 := (hbw.cell (p := ⟨b, o + j * 3, none⟩) hbs).trans c0
          have d1 := (hbw.cell (p := ⟨b, o + j * 3 + 1, none⟩) hbs).trans c1
          have d2 := (hbw.cell (p := ⟨b, o + j * 3 + 2, none⟩) hbs).trans c2
          have dC := (hbw.cell (p := ⟨bC, 0, none⟩) lc).trans cc
          have lC : bC < wr.heap.size := Nat.lt_of_lt_of_le lc hbw.size
          have HAA := Lib.hid ha
          have hok := okT_at HF.out HSZ.out ha
          have hic := ih a _ (wr.alloc (.cells #[.int .i64 a.k, .int .i64 a.n, .slice A2 a.args.length cc'] 25)) (by have := size_at (k := k) (n := n) HAA.out; have := HN.out; omega) hok.1 hok.2 ((hTa.bel hbw).bel (bself wr _)) ((HE.out.bel hbw).bel (bself wr _))
          have HHB := hb
          have HBW := Lib.hid hbw
          clear ha c0 c1 c2 hb hok hbw
          go_wp2_with (go_at_call 60; refine hic.mono ?_; rintro e W1 ⟨rfl, hb1⟩; have HB1 := Lib.hid (bthen (bself wr _) hb1); clear hb1)
          have HS1 : Hid (w.heap.size + 3 ≤ wr.heap.size ∧ wr.heap.size ≤ W1.heap.size) := ⟨by have := HHB.out.size; have := HS2.out; omega, HB1.out.size⟩
          have HMB : Hid (∀ k, u8.ownBlock = some k → w.heap.size + 3 ≤ k ∧ k < wr.heap.size) := HOM.out.lt
          replace HOM := Lib.hid (own_bel HOM.out HB1.out)
          replace HRL := Lib.hid (own_bel HRL.out HB1.out)
          replace HOL := Lib.hid ((HB1.out.block _ (by have := HS1.out; omega)).trans HOL.out)
          have HNL : Hid (∀ k, u8.ownBlock = some k → ¬ k = w.heap.size + 2) := fun k hk e => by have := (HMB.out k hk).1; omega
          clear hic
          refine wp_region_post 7 (R := fun i => Grew (fun k => i = 3 ∧ u8.ownBlock = some k)) (B := fun i w' => i = 3 → w'.ownsRow (w.heap.size + 3) 4 1 u8 j (bls (canL ts (args.take j)))) (C := Grew (fun k => u8.ownBlock = some k) W1)
            [fun v _ => v = u8,
              fun v _ => v = .bool (canB ts a),
              fun v w' => ∃ g, v = .slice (some ⟨g, 0, none⟩) 1 1 ∧ W1.heap.size ≤ g ∧ w'.cell? ⟨g, 0, none⟩ = some (.bool (canB ts a)),
              fun v w' => w'.ownsRow (w.heap.size + 3) 4 1 v (j + 1) (bls (canL ts (args.take (j + 1)))) ∧ ∀ k, v.ownBlock = some k → u8.ownBlock = some k ∨ W1.heap.size ≤ k,
              fun v _ => v = lv,
              fun v _ => v = .string ⟨(txt a).toArray⟩,
              fun v w' => ∃ g, v = .slice (some ⟨g, 0, none⟩) 1 1 ∧ W1.heap.size ≤ g ∧ w'.cell? ⟨g, 0, none⟩ = some (.string ⟨(txt a).toArray⟩)]
            [[], [], [1], [0, 1, 2], [], [], [5]] (by kernel_rfl) (by kernel_rfl) (by kernel_rfl) (fun _ _ _ _ h h' => h.trans (h'.mono fun k _ e => e.2)) ?_ (fun i j' w1 w2 _ _ hne _ _ hg hb e => own_grew (hb e) hg fun k hk hh => hne (e.trans hh.1.symm)) (Grew.drew _ _) (fun _ _ _ => own_bel HOM.out (Below.refl _ _).drew) ?_ ?_
          · intro i j' v w1 w2 _ hne hC hg hv
            have kc : ∀ g z, W1.heap.size ≤ g → w1.cell? ⟨g, 0, none⟩ = some z → w2.cell? ⟨g, 0, none⟩ = some z := fun g z hg1 hz => hg.cell hz fun e => by have := HMB.out g e.2; have := HS1.out.2; omega
            rcases j' with _ | _ | _ | _ | _ | _ | _ | j'
            · exact hv
            · exact hv
            · obtain ⟨g, e, h1, h2⟩ := hv; exact ⟨g, e, h1, kc g _ h1 h2⟩
            · obtain ⟨h1, h2⟩ := hv; exact ⟨own_grew h1 hg fun k hk hh => hne hh.1.symm, h2⟩
            · exact hv
            · exact hv
            · obtain ⟨g, e, h1, h2⟩ := hv; exact ⟨g, e, h1, kc g _ h1 h2⟩
            · trivial
          · intro vals
            simp only [List.take_succ_cons, List.take_zero, Steps_, List.headD_cons, List.tail_cons, List.forall_mem_cons, List.not_mem_nil, false_implies, implies_true, and_true, List.getD_cons_zero, List.getD_cons_succ, Act.put, List.setIfInBounds_toArray, List.set_cons_zero, List.set_cons_succ, Nat.zero_add, Nat.reduceAdd]
            refine ⟨?_, ?_, ?_, ?_, ?_, ?_, ?_⟩
            · rintro w1 hC _ _
              go_wp2_with fail
              exact ⟨_, rfl, Grew.refl _ _, rfl⟩
            · rintro w1 hC _ _
              go_wp2_with fail
              exact ⟨_, rfl, Grew.refl _ _, rfl⟩
            · rintro w1 hC _ h1
              rw [h1]
              have HCS := Lib.hid hC.size
              go_wp2_with fail
              exact ⟨_, rfl, Grew.alloc _ _ _, w1.heap.size, rfl, HCS.out, (blk_cell (heap_alloc_new w1 _) 0).trans rfl⟩
            · rintro w1 hC hB ⟨h0, h1, h2⟩
              obtain ⟨g, e2, hg, hc⟩ := h2
              rw [h0, h1]
              rw [e2]
              have HCS := Lib.hid hC.size
              have HBO := Lib.hid (hB trivial)
              have HHG := Lib.hid hg
              have hS1 := HS1.out
              clear hB hg e2
              refine wpList_append_own_at _ rfl _ _ 87 rfl (w.heap.size + 3) 4 i4 _ 1 1 Tryd.underlying87 hi4 hz40 hz41 hz42 rfl (by decide) u8 j _ rfl HBO.out ⟨g, 0, none⟩ 1 1 [.bool (canB ts a)] rfl rfl (news1 hc) ?_ ?_ ?_ ?_ ?_
              rotate_right
              · intro v1 w2 hown2 hg2 _ hloc
                go_wp2_with fail
                exact ⟨_, rfl, Grew.of_grownBy hg2 fun k hk => by first | exact hk | exact ⟨rfl, hk⟩, by rw [take_can HAA.out]; exact hown2, fun k hk => by rcases hloc with e | e; exact .inl (e ▸ hk); rw [e] at hk; cases hk; exact .inr HCS.out⟩
              · intro u hu; simp at hu; subst hu; rfl
              · unfold maxLen; omega
              · omega
              · have := HCS.out; omega
            · rintro w1 hC _ _
              have hOl := hC.heap HOL.out fun e => HNL.out _ e (by omega)
              have q := (blk_cell hOl 0).trans rfl
              clear hOl
              go_wp2_with fail
              exact ⟨_, rfl, Grew.refl _ _, rfl⟩
            · rintro w1 hC _ _
              go_wp2_with fail
              exact ⟨_, rfl, Grew.refl _ _, rfl⟩
            · rintro w1 hC _ h5
              rw [h5]
              have HCS := Lib.hid hC.size
              go_wp2_with fail
              exact ⟨_, rfl, Grew.alloc _ _ _, w1.heap.size, rfl, HCS.out, (blk_cell (heap_alloc_new w1 _) 0).trans rfl⟩
          · intro vals w1 hC hv
            have x0 : vals 0 = u8 := hv 0 (by omega)
            have x1 : vals 1 = .bool (canB ts a) := hv 1 (by omega)
            obtain ⟨g2, x2, hg2, hc2⟩ := hv 2 (by omega)
            obtain ⟨x3, hx3⟩ := hv 3 (by omega)
            have x4 : vals 4 = lv := hv 4 (by omega)
            have x5 : vals 5 = .string ⟨(txt a).toArray⟩ := hv 5 (by omega)
            obtain ⟨g6, x6, hg6, hc6⟩ := hv 6 (by omega)
            simp only [List.take_succ_cons, List.take_zero, List.drop_succ_cons, List.drop_zero, List.drop_nil, lexA, Act.put, List.setIfInBounds_toArray, List.set_cons_zero, List.set_cons_succ, Nat.zero_add, Nat.reduceAdd, x0, x1, x2, x4, x5, x6]
            clear x0 x1 x2 x4 x5 x6 hv
            have HCS := Lib.hid hC.size
            have HX3 := Lib.hid x3
            have HX3B := Lib.hid hx3
            have HOL1 := Lib.hid (hC.heap HOL.out fun e => HNL.out _ e (by omega))
            have HRL1 := Lib.hid (own_grew HRL.out hC fun k hk hh => HNE.out k hh hk)
            have HC1 := Lib.hid hC
            obtain ⟨Am, cm, em, _, _⟩ := own_form x3
            rw [em] at HX3 HX3B ⊢
            clear hx3 x3 em hC
            have hS1 := HS1.out
            refine wpList_append_own_at _ rfl _ _ 64 rfl (w.heap.size + 3) 9 i9 (.string ⟨#[]⟩) 1 16 Tryd.underlying64 hi9 hz90 hz91 hz92 rfl (by decide) lv j _ rfl HRL1.out ⟨g6, 0, none⟩ 1 1 [.string ⟨(txt a).toArray⟩] rfl rfl (news1 hc6) ?_ ?_ ?_ ?_ ?_
            rotate_right
            · intro v1 w2 hown2 hg2 _ hloc
              have hO2 := hg2.block (w.heap.size + 2) (by have := HCS.out; omega) (fun e => by have := (own_base HRL1.out) _ e.symm; omega) ▸ HOL1.out
              have q0 := (blk_cell hO2 0).trans rfl
              have q1 := blk_free hO2 0
              obtain ⟨A9, c9, rfl, _, _⟩ := own_form hown2
              have HO9 := Lib.hid hO2
              clear hO2
              have HL9 := Lib.hid hloc
              clear hloc
              go_wp2_with fail
              go_roundw
              case rel =>
                have hlm := HX3.out.lt
                have hll := HRL1.out.lt
                have hlw := HRL.out.lt
                have hs1 := HS1.out
                have hs2 := HCS.out
                have hG : Grew (fun k => lv.ownBlock = some k ∨ k = w.heap.size + 2) w1 (w2.setCell ⟨w.heap.size + 1 + 1, 0, none⟩ (.slice A9 (j + 1) c9)) := (Grew.of_grownBy hg2 fun k hk => .inl hk).setCell (.inr rfl) _
                refine ⟨j + 1, .slice A9 (j + 1) c9, by go_num, by omega, ?_, ?_, ?_, blk_set HO9.out 0 _, ?_⟩
                · refine own_grew HX3.out hG fun k hk hS => ?_
                  rcases hS with hS | rfl
                  · rcases HX3B.out k hk with h | h
                    · exact HNE.out k h hS
                    · have := (hlw k hS).2; omega
                  · have := (hlm _ hk).1; omega
                · unfold Hid
                  rw [take_txt HAA.out]
                  exact own_grew hown2 ((Grew.refl (fun k => k = w.heap.size + 2) w2).setCell rfl _) fun k hk hS => by have := (hown2.lt _ hk).1; omega
                · intro k hk hh
                  rcases HL9.out with e | e
                  · rw [e] at hh
                    rcases HX3B.out k hk with h | h
                    · exact HNE.out k h hh
                    · have := (hlw k hh).2; omega
                  · rw [e] at hh; cases hh; have := (hlm _ hk).2; omega
                · unfold Hid
                  refine Below.setCell (B := w.heap.size + 2) (p := ⟨w.heap.size + 1 + 1, 0, none⟩) ?_ (Nat.le_refl _) _
                  refine Below.grown ?_ hg2 (by omega) (fun k hk => by have := (hll k hk).1; omega)
                  exact HHB.out.trans ((HB1.out.mono (by omega)).trans (HC1.out.below (by omega) fun k hk => by have := (HMB.out k hk).1; omega))
              case measure => simp [intOf]; omega
            · intro u hu; simp at hu; subst hu; rfl
            · unfold maxLen; omega
            · omega
            · have := HCS.out; omega
        · obtain rfl : j = args.length := by omega
          rw [List.take_length] at HOM HRL
          have HHB := hb
          have hS : w.heap.size + 3 ≤ wr.heap.size := by have := HHB.out.size; have := HS2.out; omega
          have HSW := Lib.hid hS
          have HBW : Hid (Below w.heap.size w wr) := HB2.out.trans (hb.out.mono (by omega))
          have hA0 : W2.heap[w.heap.size]? = some (.cells #[.int .i64 k, .int .i64 n, .slice A args.length c] 25 (0, 0)) := by
            rw [HW2.out, Below.heap_alloc _ _ _ (by simp; omega), Below.heap_alloc _ _ _ (by simp)]; exact heap_alloc_new _ _
          have hA1 : W2.heap[w.heap.size + 1]? = some (.cells #[.string ⟨(kname k).toArray⟩, .int .i64 (arity k)] 86 (0, 0)) := by
            rw [HW2.out, Below.heap_alloc _ _ _ (by simp)]; have := heap_alloc_new (w.alloc (.cells #[.int .i64 k, .int .i64 n, .slice A args.length c] 25)) (.cells #[.string ⟨(kname k).toArray⟩, .int .i64 (arity k)] 86); simpa using this
          have HA0 := Lib.hid ((hb.out.block _ (by omega)).trans hA0)
          have HA1 := Lib.hid ((hb.out.block _ (by omega)).trans hA1)
          clear hA0 hA1 hb hS hj hlt
          have l0 : ∀ x : Later wr.heap.size wr, x.w.cell? ⟨w.heap.size + 1, 0, none⟩ = some (.string ⟨(kname k).toArray⟩) := fun x => x.cell ((blk_cell HA1.out 0).trans rfl) (by have := HSW.out; simp; omega)
          have l1 : ∀ x : Later wr.heap.size wr, x.w.cell? ⟨w.heap.size, 1, none⟩ = some (.int .i64 n) := fun x => x.cell ((blk_cell HA0.out 1).trans rfl) (by have := HSW.out; simp; omega)
          have HT2 : Hid (∀ x : Later wr.heap.size wr, Tab x.w) := fun x => HE.out.tab.later HBW.out (by have := HSW.out; omega) x
          have ap := bs_append (kname k) (Lib.itoa n)
          have bz : (kname k).length + (Lib.itoa n).length ≤ 9223372036854775807 := by have := kname_short k; have := itoa_short n hn.1 hn.2; omega
          have z1 := bs_size (kname k)
          have z2 := bs_size (Lib.itoa n)
          go_wp2_with fail
          refine wp_region_later wr.heap.size (by kernel_rfl) ?_
          repeat (first | go_big_quiet_step ((go_at_call 48; exact later_call (itoa_any _ hn _ (HT2.out _)) (by simp))) | quiet_step ((go_at_call 48; exact later_call (itoa_any _ hn _ (HT2.out _)) (by simp))))
          refine wpQuiet_nil (later_all ?_)
          intro wx hx
          have HX := Lib.hid hx
          clear l0 l1 ap bz z1 z2 HT2
          have HA0X := Lib.hid ((hx.block _ (by have := HSW.out; omega)).trans HA0.out)
          have HA1X := Lib.hid ((hx.block _ (by have := HSW.out; omega)).trans HA1.out)
          have HOLX := Lib.hid ((hx.block _ (by have := HSW.out; omega)).trans HOL.out)
          have HBX : Hid (Below w.heap.size w wx) := bthen HBW.out hx
          have HSX := Lib.hid (Nat.le_trans HSW.out hx.size)
          have HRLX := Lib.hid (own_bel HRL.out hx)
          have HOMX := Lib.hid (own_bel HOM.out hx)
          clear hx
          have y1 := (blk_cell HA1X.out 1).trans rfl
          obtain ⟨Al, cl, rfl, _, _⟩ := own_form HRL.out
          obtain ⟨Am, cm, rfl, _, _⟩ := own_form HOM.out
          have HE2 : Hid (p = kname k ++ [40] ++ Lib.join (txtL args) [44] ++ [41]) := by rw [HP.out]; unfold Hid; rw [txt, if_neg HA.out]
          have l0 : ∀ x : Later wx.heap.size wx, x.w.cell? ⟨w.heap.size + 1, 0, none⟩ = some (.string ⟨(kname k).toArray⟩) := fun x => x.cell ((blk_cell HA1X.out 0).trans rfl) (by have := HSX.out; simp; omega)
          have l1 : ∀ x : Later wx.heap.size wx, x.w.cell? ⟨w.heap.size + 1 + 1, 0, none⟩ = some (.slice Al args.length cl) := fun x => x.cell ((blk_cell HOLX.out 0).trans rfl) (by have := HSX.out; simp; omega)
          have hj : Hid (∀ x : Later wx.heap.size wx, Calls Tryd.prog 61 #[.slice Al args.length cl, .string ⟨#[44]⟩] x.w fun e w' => e = .returned (.string ⟨(Lib.join (txtL args) [44]).toArray⟩) ∧ Below x.w.heap.size x.w w') := fun x => join_any (txtL args) x.w (own_bel HRLX.out x.2) (by rw [txtL_map, List.length_map]; exact hl3) (by have := HSH.out; rw [← HP.out, HE2.out] at this; simp at this; omega)
          have ap : (⟨(kname k).toArray⟩ : ByteArray) ++ ⟨#[40]⟩ = ⟨(kname k ++ [40]).toArray⟩ := bs_append (kname k) [40]
          have ap2 := bs_append (kname k ++ [40]) (Lib.join (txtL args) [44])
          have ap3 : (⟨(kname k ++ 40 :: Lib.join (txtL args) [44]).toArray⟩ : ByteArray) ++ ⟨#[41]⟩ = ⟨p.toArray⟩ := by rw [HE2.out]; have := bs_append (kname k ++ [40] ++ Lib.join (txtL args) [44]) [41]; simpa using this
          have z1 := bs_size (kname k)
          have z2 := bs_size (kname k ++ [40])
          have z3 := bs_size (Lib.join (txtL args) [44])
          have z4 := bs_size (kname k ++ [40] ++ Lib.join (txtL args) [44])
          have bz : (kname k).length + 1 + (Lib.join (txtL args) [44]).length + 1 ≤ 9223372036854775807 := by have := HSH.out; rw [← HP.out, HE2.out] at this; simp at this; omega
          go_wp2_with fail
          refine wp_region_later wx.heap.size (by kernel_rfl) ?_
          repeat (first | go_big_quiet_step ((go_at_call 61; exact later_call (hj.out _) (Nat.le_refl _))) | quiet_step ((go_at_call 61; exact later_call (hj.out _) (Nat.le_refl _))))
          refine wpQuiet_nil (later_all ?_)
          intro wy hy
          clear l0 l1 ap ap2 ap3 z1 z2 z3 z4 bz y1 HX
          have HA0Y := Lib.hid ((hy.block _ (by have := HSX.out; omega)).trans HA0X.out)
          have HOLY := Lib.hid ((hy.block _ (by have := HSX.out; omega)).trans HOLX.out)
          have HBY : Hid (Below w.heap.size w wy) := bthen HBX.out hy
          have HSY := Lib.hid (Nat.le_trans HSX.out hy.size)
          have HRLY := Lib.hid (own_bel HRLX.out hy)
          have HOMY := Lib.hid (own_bel HOMX.out hy)
          have y0 := (blk_cell HA0Y.out 0).trans rfl
          have ky := (HBY.out.cell (p := ⟨bK, 0, none⟩) lk).trans ck
          have hlk := HLK.out wy (HBY.out.block bm HE.out.km.lt)
          have k1 : (k == 1) = false := by
            rw [beq_eq_false_iff_ne]; intro e; exact HA.out (ar0 (.inl e))
          have hS0 := HSY.out
          clear hy hj
          cases hh : hasT ts p with
          | true =>
            have HH := Lib.hid hh
            rw [hh] at hlk
            clear hh
            go_wp2_with (first | (at_lookup; refine wpList_look rfl _ _ true rfl rfl rfl hlk ?_))
            go_ret2
            exact ⟨by rw [canB, ← HP.out, HH.out]; rfl, balloc HBY.out _⟩
          | false =>
            have HH := Lib.hid hh
            rw [hh] at hlk
            clear hh
            have hlt0 : w.heap.size < wy.heap.size := by omega
            have hlt1 : bK < wy.heap.size := by omega
            have k2 : k ≠ 1 ∧ k ≠ 2 := ⟨fun e => HA.out (ar0 (.inl e)), fun e => HA.out (ar0 (.inr e))⟩
            have hBZ : Hid (∀ o, Below w.heap.size w (wy.alloc o)) := fun o => balloc HBY.out o
            by_cases e8 : k = 8
            · subst e8
              have hlen : args.length = 2 := HL.out
              obtain ⟨a, b, rfl⟩ : ∃ a b, args = [a, b] := by
                match args, hlen with
                | [a, b], _ => exact ⟨a, b, rfl⟩
              clear hlen
              have HE3 : Hid (canB ts (.mk 8 n [a, b]) = (canB ts a && (canB ts b || hasT ts (pubT b)) || canB ts b && hasT ts (pubT a))) := by
                unfold Hid; rw [canB, ← HP.out, HH.out]; rfl
              have hp := fun (j : Nat) (q : Tm) (hq : (txtL [a, b])[j]? = some (txt q)) (hs : (txt q).length ≤ 62000) (o : Obj) => public_any (D := Any) (base := w.heap.size + 3) (bl := w.heap.size + 1 + 1) (bk := bK) (bm := bm) ts (txtL [a, b]) j (txt q) (wy.alloc o) (HE.out.km.bel (hBZ.out o))
                (((bself wy o).cell hlt1).trans ky) ((blk_cell (((bself wy o).block _ (by omega)).trans HOLY.out) 0).trans rfl) (own_bel HRLY.out (bself wy o)) hq hs
              have hts := HSH.out
              have ht2 := HP.out
              have sa : (txt a).length ≤ 62000 ∧ (txt b).length ≤ 62000 := by
                rw [← HP.out, HE2.out] at hts
                simp [txtL, Lib.join_cons, Lib.joinTail] at hts
                omega
              have hp0 := hp 0 a rfl sa.1 (.cells #[.int .i64 xk, .int .i64 xn, .slice xA xl xc] 25)
              have hp1 := hp 1 b rfl sa.2 (.cells #[.int .i64 xk, .int .i64 xn, .slice xA xl xc] 25)
              rcases own_cells1 HOMY.out with ⟨e, h0⟩ | ⟨g, cm, e, hg, _, hcm1, hcm2, hcells⟩
              · simp at h0
              cases e
              have m0 := hcells 0 (.bool (canB ts a)) rfl
              have m1 := hcells 1 (.bool (canB ts b)) rfl
              replace hp0 : Calls Tryd.prog 62 #[.int .i64 0, .pointer (some ⟨bK, 0, none⟩), .pointer (some ⟨w.heap.size + 1 + 1, 0, none⟩)] _ fun e w' => e = .returned (.bool (hasT ts (pubT a))) ∧ Below (wy.alloc _).heap.size (wy.alloc _) w' := hp0
              replace hp1 : Calls Tryd.prog 62 #[.int .i64 1, .pointer (some ⟨bK, 0, none⟩), .pointer (some ⟨w.heap.size + 1 + 1, 0, none⟩)] _ fun e w' => e = .returned (.bool (hasT ts (pubT b))) ∧ Below (wy.alloc _).heap.size (wy.alloc _) w' := hp1
              obtain ⟨ga, hga⟩ : ∃ x, x = canB ts a := ⟨_, rfl⟩
              obtain ⟨gb, hgb⟩ : ∃ x, x = canB ts b := ⟨_, rfl⟩
              obtain ⟨pa, hpa⟩ : ∃ x, x = hasT ts (pubT a) := ⟨_, rfl⟩
              obtain ⟨pb, hpb⟩ : ∃ x, x = hasT ts (pubT b) := ⟨_, rfl⟩
              rw [← hga] at m0
              rw [← hgb] at m1
              rw [← hpa] at hp0
              rw [← hpb] at hp1
              have HE4 : Hid (canB ts (.mk 8 n [a, b]) = (ga && (gb || pb) || gb && pa)) := by rw [hga, hgb, hpa, hpb]; exact HE3.out
              clear hga hgb hpa hpb hcells hp hts ht2 sa
              cases ga <;> cases gb <;> cases pa <;> cases pb
              all_goals go_wp2_with (first | (at_lookup; refine wpList_look rfl _ _ true rfl rfl rfl hlk ?_) | (go_at_call 62; with_reducible refine hp0.mono ?_; rintro e w3 ⟨rfl, hb3⟩) | (go_at_call 62; with_reducible refine hp1.mono ?_; rintro e w3 ⟨rfl, hb3⟩; have m3 := (hb3.cell (p := ⟨g, 1, none⟩) (by rw [World.size_alloc]; exact Nat.lt_succ_of_lt hg)).trans (((bself wy _).cell (p := ⟨g, 1, none⟩) hg).trans m1)))
              all_goals go_ret2
              all_goals first | exact ⟨ret_bs HE4.out.symm, hBZ.out _⟩ | exact ⟨ret_bs HE4.out.symm, bthen (hBZ.out _) hb3⟩
            · have HE3 : Hid (canB ts (.mk k n args) = !(canL ts args).contains false) := by
                unfold Hid; rw [canB, ← HP.out, HH.out, if_neg e8, decide_eq_false k2.1, decide_eq_true k2.2]; rfl
              have k8 : (k == 8) = false := by rw [beq_eq_false_iff_ne]; exact e8
              have k4 : (k != 2) = true := by rw [bne_iff_ne]; exact k2.2
              have k3 : (k == 2) = false := by rw [beq_eq_false_iff_ne]; exact k2.2
              have hlc : (canL ts args).length = args.length := by rw [canL_map, List.length_map]
              have hcon := containsB_any (canL ts args) (wy.alloc (.cells #[.int .i64 xk, .int .i64 xn, .slice xA xl xc] 25)) (by rw [hlc]; exact own_bel HOMY.out (bself wy _))
              obtain ⟨cb, hcb⟩ : ∃ x, x = (canL ts args).contains false := ⟨_, rfl⟩
              rw [← hcb] at hcon
              have HE4 : Hid (canB ts (.mk k n args) = !cb) := by rw [hcb]; exact HE3.out
              clear hcb k2 e8 hlc
              go_wp2_with (first | (at_lookup; refine wpList_look rfl _ _ true rfl rfl rfl hlk ?_) | (go_at_call 63; refine hcon.mono ?_; rintro e w3 ⟨rfl, hb3⟩))
              go_ret2
              exact ⟨ret_bs HE4.out.symm, bthen (hBZ.out _) hb3⟩
end Go.Proofs.YtfhpnkmhppfeiaaDoor
