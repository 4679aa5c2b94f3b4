/- terms.text: the text of a term. -/
import Derived.Test.YtfhpnkmhppfeiaaDoorB2
import Derived.Test.YtfhpnkmhppfeiaaDoorA1
set_option linter.unusedVariables false
set_option linter.unusedSimpArgs false
namespace Go.Proofs.YtfhpnkmhppfeiaaDoor
open Go.RowKit Go.Proofs
theorem info9 : (Tryd.prog.info? 9).map (fun i => (i.zero, i.size, i.bytes)) = some (some (.string ⟨#[]⟩), 1, 16) := by kernel_rfl
theorem okT_at {k n : Int} {args : List Tm} {j : Nat} {a : Tm} (hf : form (.mk k n args) = true) (hs : size (.mk k n args) ≤ 2000) (h : args[j]? = some a) : form a = true ∧ size a ≤ 2000 :=
  ⟨form_mem hf (List.mem_of_getElem? h), by have := size_at (k := k) (n := n) h; omega⟩
set_option maxRecDepth 100000 in
set_option maxHeartbeats 1000000 in
theorem text_any (N : Nat) : ∀ (t : Tm) (v : Value) (m : Nat) (w : World), size t ≤ N → form t = true → size t ≤ 2000 → TR w Any t v → FormsAt w m → Tab w →
    Calls Tryd.prog 50 #[v, .map (some m)] w fun e w' => e = .returned (.string ⟨(txt t).toArray⟩) ∧ Below w.heap.size w w' := by
  induction N with
  | zero => intro t v m w h; have := size_pos t; omega
  | succ N ih =>
    rintro ⟨k, n, args⟩ v m w hN hf hsz hT hF hTab
    obtain ⟨s, rfl, hk, hn, hS⟩ := hT.inv
    obtain ⟨A, c, rfl, hc1, hc2⟩ := hS.form
    have hm := hF.lt
    have hshort := txt_short hT.rng hsz
    have HF := Lib.hid hf
    have HSZ := Lib.hid hsz
    have HS := Lib.hid hS
    have HN := Lib.hid hN
    have HTab := Lib.hid hTab
    have HSH := Lib.hid hshort
    clear hf hsz hS hN hT hTab hshort
    by_cases ha : arity k = 0
    · have HE : Hid (txt (.mk k n args) = kname k ++ Lib.itoa n) := by unfold Hid; rw [txt, if_pos ha]
      have HA := Lib.hid ha
      clear ha
      have f1 : ∀ x : Later (w.heap.size + 2) ((w.alloc (.cells #[.int .i64 k, .int .i64 n, .slice A args.length c] 25)).alloc (.cells #[.string ⟨(kname k).toArray⟩, .int .i64 0] 86)), x.w.cell? ⟨w.heap.size + 1, 0, none⟩ = some (.string ⟨(kname k).toArray⟩) := fun x => x.cell (by go_simp) (by simp)
      have f2 : ∀ x : Later (w.heap.size + 2) ((w.alloc (.cells #[.int .i64 k, .int .i64 n, .slice A args.length c] 25)).alloc (.cells #[.string ⟨(kname k).toArray⟩, .int .i64 0] 86)), x.w.cell? ⟨w.heap.size, 1, none⟩ = some (.int .i64 n) := fun x => x.cell (by go_simp) (by simp)
      have HT2 : Hid (∀ x : Later (w.heap.size + 2) ((w.alloc (.cells #[.int .i64 k, .int .i64 n, .slice A args.length c] 25)).alloc (.cells #[.string ⟨(kname k).toArray⟩, .int .i64 0] 86)), Tab x.w) := fun x => HTab.out.later (balloc (bself w _) _) (by omega) x
      have ap := bs_append (kname k) (Lib.itoa n)
      have bz : (kname k).length + (Lib.itoa n).length ≤ 9223372036854775807 := by have := HSH.out; rw [HE.out, List.length_append] at this; omega
      have z1 := bs_size (kname k)
      have z2 := bs_size (Lib.itoa n)
      go_enter Tryd.func50, Tryd.ntmps50
      go_wp2_with (first | (at_lookup; refine wpList_forms rfl _ _ rfl rfl rfl (hF.keep ((Below.refl _ _).alloc (Nat.le_refl _) _) hm) ?_; rw [HA.out]))
      refine wp_region_later (w.heap.size + 2) (by kernel_rfl) ?_
      repeat (first | go_big_quiet_step ((go_at_call 48; exact later_call (itoa_any _ hn _ (HT2.out _)) (by simp))) | quiet_step ((go_at_call 48; exact later_call (itoa_any _ hn _ (HT2.out _)) (by simp))))
      refine wpQuiet_nil ?_
      intro x
      go_wp2
      go_ret
      exact ⟨ret_s HE.out.symm, x.bel (balloc (bself w _) _) (by omega)⟩
    · have HE : Hid (txt (.mk k n args) = kname k ++ [40] ++ Lib.join (txtL args) [44] ++ [41]) := by unfold Hid; rw [txt, if_neg ha]
      have hlen := (headOK_iff.1 (form_head HF.out).1).2.1
      have har : (((arity k : Nat) : Int) == 0) = false := by simp; omega
      have hl3 : args.length ≤ 1000 := by have := (form_head HF.out).1; rw [hlen]; unfold arity; repeat' split
                                          all_goals omega
      have HA := Lib.hid ha
      have HL := Lib.hid hlen
      clear ha hlen
      obtain ⟨i0, hi, hz0, hz1, hz2⟩ := info_parts info9
      go_enter Tryd.func50, Tryd.ntmps50
      go_wp2_with (first | (at_lookup; refine wpList_forms rfl _ _ rfl rfl rfl (hF.keep ((Below.refl _ _).alloc (Nat.le_refl _) _) hm) ?_))
      obtain ⟨W2, hW2⟩ : ∃ W2 : World, W2 = (w.alloc (.cells #[.int .i64 k, .int .i64 n, .slice A args.length c] 25)).alloc (.cells #[.string ⟨(kname k).toArray⟩, .int .i64 (arity k)] 86) := ⟨_, rfl⟩
      rw [← hW2]
      have HW2 := Lib.hid hW2
      clear hW2
      have hb2 : Below w.heap.size w W2 := by rw [HW2.out]; exact balloc (bself w _) _
      have hs2 : W2.heap.size = w.heap.size + 2 := by rw [HW2.out]; simp
      have c2 : W2.cell? ⟨w.heap.size + 1, 0, none⟩ = some (.string ⟨(kname k).toArray⟩) := by rw [HW2.out]; go_simp
      have HS2 := Lib.hid hs2
      have HB2 := Lib.hid hb2
      clear hs2 hb2
      go_loopw [6, 25] (fun l i wr => ∃ (j : Nat), i = .int .i64 j ∧ j ≤ args.length ∧ wr.ownsRow (w.heap.size + 2) 9 1 l j (strs (txtL (args.take j))) ∧ Below (w.heap.size + 2) W2 wr) (fun _ i _ => args.length - (intOf i).toNat)
      case atStart => exact ⟨0, rfl, Nat.zero_le _, World.ownsRow_nil _ _ _ _, Below.refl _ _⟩
      case round =>
        obtain ⟨j, rfl, hj, hown, hb⟩ := hrel
        by_cases hlt : j < args.length
        · obtain ⟨a, ha⟩ : ∃ a, args[j]? = some a := ⟨_, List.getElem?_eq_getElem hlt⟩
          obtain ⟨b, o, A2, cc, rfl, _, hbs, c0, c1, c2, hTa⟩ := HS.out.at_ ha
          have hbw : Below w.heap.size w wr := HB2.out.trans (hb.mono (by omega))
          have d0 := (hbw.cell (p := ⟨b, o + j * 3, none⟩) hbs).trans c0
          have d1 := (hbw.cell (p := ⟨b, o + j * 3 + 1, none⟩) hbs).trans c1
          have d2 := (hbw.cell (p := ⟨b, o + j * 3 + 2, none⟩) hbs).trans c2
          have HAA := Lib.hid ha
          have HHB := Lib.hid hb
          have HHO := Lib.hid hown
          have hok := okT_at HF.out HSZ.out ha
          have hic := ih a _ m (wr.alloc (.cells #[.int .i64 a.k, .int .i64 a.n, .slice A2 a.args.length cc] 25)) (by have := size_at (k := k) (n := n) HAA.out; have := HN.out; omega) hok.1 hok.2 ((hTa.bel hbw).bel (bself wr _)) ((hF.bel hbw).bel (bself wr _)) ((HTab.out.bel hbw).bel (bself wr _))
          clear ha c0 c1 c2 hb hown hok
          go_wp2_with (first
            | (go_at_call 50; refine hic.mono ?_; rintro e w1 ⟨rfl, hb1⟩; have hown1 := own_bel (HHO.out.alloc _) hb1)
            | (at_builtin; refine wpList_append_own _ rfl _ _ 64 rfl (w.heap.size + 2) 9 i0 (.string ⟨#[]⟩) 1 16 Tryd.underlying64 hi hz0 hz1 hz2 rfl (by decide) _ _ _ rfl (hown1.alloc _) ⟨w1.heap.size, 0, none⟩ 1 1 [.string ⟨(txt a).toArray⟩] rfl rfl (cell_one_new _ _ _) ?_ ?_ ?_ ?_ ?_; rotate_right; intro v' w2 hown2 hg2 _))
          · go_roundw
            case rel =>
              refine ⟨j + 1, by go_num, by omega, ?_, ?_⟩
              · rw [List.take_add_one, HAA.out]
                simpa [txtL_map, strs] using hown2
              · exact bgrow (bcall HHB.out (Nat.le_of_eq HS2.out.symm) hb1).1 (bcall HHB.out (Nat.le_of_eq HS2.out.symm) hb1).2 hg2 (own_base HHO.out)
            case measure => simp [intOf]; omega
          case refine_1 => intro u hu; simp at hu; subst hu; rfl
          case refine_2 => unfold maxLen; omega
          case refine_3 => omega
          case refine_4 => have := (bcall HHB.out (Nat.le_of_eq HS2.out.symm) hb1).2; rw [World.size_alloc]; omega
        · obtain rfl : j = args.length := by omega
          have hc := (hb.cell (p := ⟨w.heap.size + 1, 0, none⟩) (by simp)).trans c2
          have HHB := Lib.hid hb
          have hwr := Lib.hid (show w.heap.size + 2 ≤ wr.heap.size by have := hb.size; have := HS2.out; omega)
          have f1 : ∀ x : Later wr.heap.size wr, x.w.cell? ⟨w.heap.size + 1, 0, none⟩ = some (.string ⟨(kname k).toArray⟩) := fun x => x.cell hc (by have := hwr.out; simp; omega)
          have hj : Hid (∀ x : Later wr.heap.size wr, Calls Tryd.prog 61 #[_, .string ⟨#[44]⟩] x.w fun e w' => e = .returned (.string ⟨(Lib.join (txtL args) [44]).toArray⟩) ∧ Below x.w.heap.size x.w w') := fun x => join_any (txtL args) x.w (own_bel (by rw [List.take_length] at hown; exact hown) x.2) (by rw [txtL_map, List.length_map]; exact hl3) (by have := HSH.out; rw [HE.out] at this; simp at this; omega)
          clear hb hown
          have ap : (⟨(kname k).toArray⟩ : ByteArray) ++ ⟨#[40]⟩ = ⟨(kname k ++ [40]).toArray⟩ := bs_append (kname k) [40]
          have ap2 := bs_append (kname k ++ [40]) (Lib.join (txtL args) [44])
          have ap3 : (⟨(kname k ++ 40 :: Lib.join (txtL args) [44]).toArray⟩ : ByteArray) ++ ⟨#[41]⟩ = ⟨(kname k ++ 40 :: Lib.join (txtL args) [44] ++ [41]).toArray⟩ := bs_append _ [41]
          have z1 := bs_size (kname k)
          have z2 := bs_size (kname k ++ [40])
          have z3 := bs_size (Lib.join (txtL args) [44])
          have z4 := bs_size (kname k ++ [40] ++ Lib.join (txtL args) [44])
          have bz : (kname k).length + 1 + (Lib.join (txtL args) [44]).length + 1 ≤ 9223372036854775807 := by have := HSH.out; rw [HE.out] at this; simp at this; omega
          go_wp2_with fail
          refine wp_region_later wr.heap.size (by kernel_rfl) ?_
          repeat (first | go_big_quiet_step ((go_at_call 61; exact later_call (hj.out _) (Nat.le_refl _))) | quiet_step ((go_at_call 61; exact later_call (hj.out _) (Nat.le_refl _))))
          refine wpQuiet_nil ?_
          intro x
          go_wp2
          go_ret
          exact ⟨ret_s (by rw [HE.out]; simp), x.bel (HB2.out.trans (HHB.out.mono (by omega))) (by have := hwr.out; omega)⟩
end Go.Proofs.YtfhpnkmhppfeiaaDoor
