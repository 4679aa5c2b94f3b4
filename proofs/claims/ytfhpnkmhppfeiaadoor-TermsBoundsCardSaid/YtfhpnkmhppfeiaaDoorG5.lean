/- The law's all; the reference's Text. The reference: number, natural. The reference: natural. -/
import Derived.Test.YtfhpnkmhppfeiaaDoorG4
import Derived.Test.YtfhpnkmhppfeiaaDoorPlain2
/- The law's all; the reference's Text. -/
set_option linter.unusedVariables false
set_option linter.unusedSimpArgs false
namespace Go.Proofs.YtfhpnkmhppfeiaaDoor
open Go.RowKit Go.Proofs
set_option maxRecDepth 100000 in
set_option maxHeartbeats 1000000 in
theorem all_any (L : List Tm) (v : Value) (w : World) (hT : TS w Any L v) : Calls Tryd.prog 15 #[v] w fun e w' => e = .returned (.bool (L.all may)) ∧ Below w.heap.size w w' := by
  obtain ⟨A, c, rfl, hc1, hc2⟩ := hT.form
  have HT := Lib.hid hT
  clear hT
  go_enter Tryd.func15, Tryd.ntmps15
  go_wp2_with fail
  go_loopw [3] (fun i wr => ∃ (j : Nat), i = .int .i64 j ∧ j ≤ L.length ∧ Hid (∀ i t, i < j → L[i]? = some t → may t = true) ∧ Hid (Below w.heap.size w wr)) (fun i _ => L.length - (intOf i).toNat)
  case atStart => exact ⟨0, rfl, Nat.zero_le _, fun i t hi => by omega, Below.refl _ _⟩
  case round =>
    obtain ⟨j, rfl, hj, HX, HB⟩ := hrel
    by_cases hlt : j < L.length
    · obtain ⟨a, ha⟩ : ∃ a, L[j]? = some a := ⟨_, List.getElem?_eq_getElem hlt⟩
      obtain ⟨b, o, A2, cc, rfl, _, hbs, c0, c1, c2, hTa⟩ := HT.out.at_ ha
      have d0 := (HB.out.cell (p := ⟨b, o + j * 3, none⟩) hbs).trans c0
      have d1 := (HB.out.cell (p := ⟨b, o + j * 3 + 1, none⟩) hbs).trans c1
      have d2 := (HB.out.cell (p := ⟨b, o + j * 3 + 2, none⟩) hbs).trans c2
      have HAA := Lib.hid ha
      have hm := rMay_any a _ wr (hTa.bel HB.out)
      clear ha c0 c1 c2 hTa
      cases hma : may a with
      | true =>
        have HMA := Lib.hid hma
        rw [hma] at hm
        clear hma
        go_wp2_with (go_at_call 16; refine hm.mono ?_; rintro e w1 ⟨rfl, hb1⟩)
        have HB1 := Lib.hid hb1
        clear hb1
        go_roundw
        case rel =>
          refine ⟨j + 1, by go_num, by omega, fun i t hi ht => ?_, bthen HB.out HB1.out⟩
          rcases Nat.lt_or_ge i j with h | h
          · exact HX.out i t h ht
          · obtain rfl : i = j := by omega
            rw [HAA.out] at ht
            cases ht
            exact HMA.out
        case measure => simp [intOf]; omega
      | false =>
        have HMA := Lib.hid hma
        rw [hma] at hm
        clear hma
        go_wp2_with (go_at_call 16; refine hm.mono ?_; rintro e w1 ⟨rfl, hb1⟩)
        go_ret
        refine ⟨ret_b ?_, bthen HB.out hb1⟩
        symm
        rw [List.all_eq_false]
        exact ⟨a, List.mem_of_getElem? HAA.out, by rw [HMA.out]; simp⟩
    · obtain rfl : j = L.length := by omega
      go_wp2
      go_ret
      refine ⟨ret_b ?_, HB.out⟩
      symm
      rw [List.all_eq_true]
      intro t ht
      obtain ⟨i, hi⟩ := List.getElem?_of_mem ht
      exact HX.out i t (List.getElem?_eq_some_iff.1 hi).1 hi
/-- A text that grows. -/
def pre (k : Int) (args : List Tm) (j : Nat) : Bs := if j = 0 then kname k else kname k ++ (40 :: Lib.join (txtL (args.take j)) [44])
theorem join_snoc (l : List Bs) (x : Bs) : Lib.join (l ++ [x]) [44] = if l = [] then x else Lib.join l [44] ++ 44 :: x := by
  cases l with
  | nil => simp [Lib.join_one]
  | cons y r => rw [if_neg (by simp), List.cons_append, Lib.join_cons, Lib.join_cons]; simp [Lib.joinTail]
theorem pre_succ {k : Int} {args : List Tm} {j : Nat} {a : Tm} (h : args[j]? = some a) : pre k args (j + 1) = pre k args j ++ ((if j = 0 then 40 else 44) :: txt a) := by
  unfold pre
  rw [if_neg (by omega), List.take_add_one, h, txtL_map, List.map_append, Option.toList_some, List.map_cons, List.map_nil, join_snoc]
  by_cases hj : j = 0
  · subst hj; simp
  · have hl := (List.getElem?_eq_some_iff.1 h).1
    have : List.map txt (args.take j) ≠ [] := by
      intro e
      have := congrArg List.length e
      simp only [List.length_map, List.length_take, List.length_nil] at this; omega
    rw [if_neg this, if_neg hj, if_neg hj, txtL_map]; simp
theorem pre_mono (k : Int) (args : List Tm) (j : Nat) (hj : j ≤ args.length) : (pre k args j).length ≤ (pre k args args.length).length := by
  have : ∀ d, j + d ≤ args.length → (pre k args j).length ≤ (pre k args (j + d)).length := by
    intro d
    induction d with
    | zero => intro _; exact Nat.le_refl _
    | succ d ih =>
      intro h
      have := ih (by omega)
      rw [show j + (d + 1) = j + d + 1 by omega, pre_succ (List.getElem?_eq_getElem (show j + d < args.length by omega))]
      simp; omega
  have := this (args.length - j) (by omega)
  rwa [show j + (args.length - j) = args.length by omega] at this
theorem txt_pre {k n : Int} {args : List Tm} (ha : ¬ arity k = 0) (hl : args.length = arity k) : txt (.mk k n args) = pre k args args.length ++ [41] := by
  rw [txt, if_neg ha]
  unfold pre
  rw [if_neg (by omega), List.take_length]; simp
set_option maxRecDepth 100000 in
set_option maxHeartbeats 1000000 in
theorem rText_any : ∀ (N : Nat) (t : Tm) (v : Value) (w : World), size t ≤ N → form t = true → size t ≤ 2000 → TR w Any t v → Tab w →
    Calls Tryd.prog 28 #[v] w fun e w' => e = .returned (.string ⟨(txt t).toArray⟩) ∧ Below w.heap.size w w' := by
  intro N
  induction N with
  | zero => intro t v w h; have := size_pos t; omega
  | succ N ih =>
    rintro ⟨k, n, args⟩ v w hN hf hsz hT hTab
    obtain ⟨s, rfl, hk, hn, hS⟩ := hT.inv
    obtain ⟨A, c, rfl, hc1, hc2⟩ := hS.form
    have hshort := txt_short hT.rng hsz
    have HF := Lib.hid hf
    have HSZ := Lib.hid hsz
    have HS := Lib.hid hS
    have HN := Lib.hid hN
    have HTab := Lib.hid hTab
    have HSH := Lib.hid hshort
    have hh := headOK_iff.1 (form_head hf).1
    have hk1 := hh.1.1
    have hk2 := hh.1.2
    have HL := Lib.hid hh.2.1
    clear hf hsz hS hN hT hTab hshort hh
    obtain ⟨W0, hW0⟩ : ∃ W0, W0 = w.alloc (.cells #[.int .i64 k, .int .i64 n, .slice A args.length c] 25) := ⟨_, rfl⟩
    have HB0 : Hid (Below w.heap.size w W0) := by rw [hW0]; exact bself _ _
    have HA0 : Hid (W0.heap[w.heap.size]? = some (.cells #[.int .i64 k, .int .i64 n, .slice A args.length c] 25 (0, 0))) := by rw [hW0]; exact heap_alloc_new _ _
    go_enter Tryd.func28, Tryd.ntmps28
    go_wp2_with fail
    rw [← hW0]
    clear hW0
    refine wp_region_post 3 (R := fun _ => Grew None_) (B := fun _ _ => True) (C := Grew (None_) W0)
      [fun v w' => ∃ g, v = .slice (some ⟨g, 0, none⟩) 10 10 ∧ ∀ k : Nat, k ≤ 9 → w'.cell? ⟨g, k, none⟩ = some (.string ⟨(kname k).toArray⟩),
        fun v _ => v = .pointer (some ⟨w.heap.size, 0, none⟩),
        fun v _ => v = .int .i64 k]
      [[], [], [1]] (by kernel_rfl) (by kernel_rfl) (by kernel_rfl) (fun _ _ _ _ h h' => h.trans h') ?_ (fun _ _ _ _ _ _ _ _ _ _ _ => trivial) (Grew.drew _ _) (fun _ _ => trivial) ?_ ?_
    · intro i j v w1 w2 _ _ _ hg
      refine lasts ?_ j v
      simp only [List.forall_mem_cons, List.not_mem_nil, false_implies, implies_true, and_true]
      refine ⟨fun _ ⟨g, e, h⟩ => ⟨g, e, fun k hk => hg.cell (h k hk) fun h => h.elim⟩, fun _ h => h, fun _ h => h⟩
    · intro vals
      simp only [List.take_succ_cons, List.take_zero, Steps_, List.headD_cons, List.tail_cons, List.forall_mem_cons, List.not_mem_nil, false_implies, implies_true, and_true, List.getD_cons_zero, List.getD_cons_succ, Act.put, List.setIfInBounds_toArray, List.set_cons_zero, List.set_cons_succ, Nat.zero_add, Nat.reduceAdd]
      refine ⟨?_, ?_, ?_⟩
      · rintro w1 hC _ _
        go_wp2_with (go_at_call 47; refine (names_any _).mono ?_; rintro e w2 ⟨rfl, hF, hb2⟩)
        exact ⟨_, rfl, Grew.of_below hb2, _, rfl, hF⟩
      · rintro w1 hC _ _
        go_wp2_with fail
        exact ⟨_, rfl, Grew.refl _ _, rfl⟩
      · rintro w1 hC _ h1
        rw [h1]
        have q := (blk_cell (hC.heap HA0.out fun h => h.elim) 0).trans rfl
        go_wp2_with fail
        exact ⟨_, rfl, Grew.refl _ _, rfl⟩
    · intro vals w1 hC hv
      generalize hgoal : wpList _ _ _ _ _ _ = G; obtain ⟨g, x0, hg0⟩ : ∃ g, vals 0 = .slice (some ⟨g, 0, none⟩) 10 10 ∧ ∀ k : Nat, k ≤ 9 → w1.cell? ⟨g, k, none⟩ = some (.string ⟨(kname k).toArray⟩) := hv 0 (by omega); subst hgoal
      have x1 : vals 1 = .pointer (some ⟨w.heap.size, 0, none⟩) := hv 1 (by omega)
      have x2 : vals 2 = .int .i64 k := hv 2 (by omega)
      simp only [List.take_succ_cons, List.take_zero, List.drop_succ_cons, List.drop_zero, List.drop_nil, lexA, Act.put, List.setIfInBounds_toArray, List.set_cons_zero, List.set_cons_succ, Nat.zero_add, Nat.reduceAdd, x0, x1, x2]
      clear x0 x1 x2 hv
      have hk0 : 0 ≤ k := by omega
      have hk9 : k < 10 := by omega
      have hkc := hg0 k.toNat (by omega)
      rw [Int.toNat_of_nonneg hk0] at hkc
      have HA1 := Lib.hid (hC.heap HA0.out fun h => h.elim)
      have HB1 : Hid (Below w.heap.size w w1) := bthen HB0.out hC.all
      obtain ⟨q0, q1, q2, _, _, _⟩ := cell3_load HA1.out
      have hA1l := (Array.getElem?_eq_some_iff.1 HA1.out).1
      clear hg0 hC
      by_cases h2 : k ≤ 2
      · have har : arity k = 0 := ar0 (by omega)
        have HE : Hid (txt (.mk k n args) = kname k ++ Lib.itoa n) := by unfold Hid; rw [txt, if_pos har]
        have hit := itoa_any n hn w1 (HTab.out.bel HB1.out)
        have ap := bs_append (kname k) (Lib.itoa n)
        have bz : (kname k).length + (Lib.itoa n).length ≤ 9223372036854775807 := by have := HSH.out; rw [HE.out, List.length_append] at this; omega
        have z1 := bs_size (kname k)
        have z2 := bs_size (Lib.itoa n)
        clear har
        go_wp2_with (go_at_call 48; refine hit.mono ?_; rintro e w2 ⟨rfl, hb2⟩)
        go_ret
        exact ⟨ret_s HE.out.symm, bthen HB1.out hb2⟩
      · have har : ¬ arity k = 0 := by unfold arity; repeat' split
                                       all_goals omega
        have HAR := Lib.hid har
        have HTP := Lib.hid (txt_pre (n := n) har HL.out)
        clear har
        go_wp2_with fail
        go_loopw [3, 4] (fun x i wr => ∃ (j : Nat), i = .int .i64 j ∧ x = .string ⟨(pre k args j).toArray⟩ ∧ j ≤ args.length ∧ Hid (Below w1.heap.size w1 wr)) (fun _ i _ => args.length - (intOf i).toNat)
        case atStart => exact ⟨0, rfl, rfl, Nat.zero_le _, Below.refl _ _⟩
        case round =>
          obtain ⟨j, rfl, rfl, hj, HB⟩ := hrel
          clear q0 q1 q2
          obtain ⟨q0, q1, q2, _, _, _⟩ := cell3_load ((HB.out.block _ hA1l).trans HA1.out)
          by_cases hlt : j < args.length
          · obtain ⟨a, ha⟩ : ∃ a, args[j]? = some a := ⟨_, List.getElem?_eq_getElem hlt⟩
            obtain ⟨b, o, A2, cc, rfl, _, hbs, c0, c1, c2, hTa⟩ := HS.out.at_ ha
            have HBW : Hid (Below w.heap.size w wr) := bthen HB1.out HB.out
            have d0 := (HBW.out.cell (p := ⟨b, o + j * 3, none⟩) hbs).trans c0
            have d1 := (HBW.out.cell (p := ⟨b, o + j * 3 + 1, none⟩) hbs).trans c1
            have d2 := (HBW.out.cell (p := ⟨b, o + j * 3 + 2, none⟩) hbs).trans c2
            have HAA := Lib.hid ha
            have hok := okT_at HF.out HSZ.out ha
            have hic := ih a _ wr (by have := size_at (k := k) (n := n) HAA.out; have := HN.out; omega) hok.1 hok.2 (hTa.bel HBW.out) (HTab.out.bel HBW.out)
            have hps := pre_succ (k := k) HAA.out
            have hpl : (pre k args (j + 1)).length ≤ 62000 := by
              have h1 := pre_mono k args (j + 1) (by omega)
              have h2 := HSH.out
              rw [HTP.out, List.length_append] at h2
              omega
            obtain ⟨sep, hsep⟩ : ∃ sep : UInt8, sep = if j = 0 then 40 else 44 := ⟨_, rfl⟩
            rw [← hsep] at hps
            have hpl2 := hpl
            rw [hps] at hpl2
            simp only [List.length_append, List.length_cons] at hpl2
            have ap1 : (⟨(pre k args j).toArray⟩ : ByteArray) ++ ⟨#[sep]⟩ = ⟨(pre k args j ++ [sep]).toArray⟩ := bs_append _ [sep]
            have ap2 : (⟨(pre k args j ++ [sep]).toArray⟩ : ByteArray) ++ ⟨(txt a).toArray⟩ = ⟨(pre k args (j + 1)).toArray⟩ := by rw [hps, bs_append]; simp
            have z1 := bs_size (pre k args j)
            have z2 : ((⟨(pre k args j ++ [sep]).toArray⟩ : ByteArray)).size = (pre k args j).length + 1 := by rw [bs_size]; simp
            have z3 := bs_size (txt a)
            clear ha c0 c1 c2 hTa hok hps hpl
            rcases Nat.eq_zero_or_pos j with hj0 | hj0
            · rw [if_pos hj0] at hsep
              subst hsep
              subst hj0
              simp only [Nat.zero_mul, Nat.add_zero] at d0 d1 d2
              go_wp2_with (go_at_call 28; refine hic.mono ?_; rintro e w3 ⟨rfl, hb3⟩)
              have HB3 := Lib.hid hb3
              clear hb3
              go_roundw
              case rel => exact ⟨1, by go_num, rfl, by omega, bthen HB.out HB3.out⟩
              case measure => simp [intOf]; omega
            · rw [if_neg (by omega)] at hsep
              subst hsep
              have hj1 : ((j : Int) == 0) = false := by rw [beq_eq_false_iff_ne]; omega
              go_wp2_with (go_at_call 28; refine hic.mono ?_; rintro e w3 ⟨rfl, hb3⟩)
              have HB3 := Lib.hid hb3
              clear hb3
              go_roundw
              case rel => exact ⟨j + 1, by go_num, rfl, by omega, bthen HB.out HB3.out⟩
              case measure => simp [intOf]; omega
          · obtain rfl : j = args.length := by omega
            have hpl : (pre k args args.length).length + 1 ≤ 62000 := by have h2 := HSH.out; rw [HTP.out] at h2; simpa using h2
            have ap1 : (⟨(pre k args args.length).toArray⟩ : ByteArray) ++ ⟨#[41]⟩ = ⟨(pre k args args.length ++ [41]).toArray⟩ := bs_append _ [41]
            have z1 := bs_size (pre k args args.length)
            go_wp2_with fail
            go_ret
            exact ⟨ret_s (by rw [HTP.out]), bthen HB1.out HB.out⟩
end Go.Proofs.YtfhpnkmhppfeiaaDoor
/- The reference: number, natural. -/
set_option linter.unusedVariables false
set_option linter.unusedSimpArgs false
namespace Go.Proofs.YtfhpnkmhppfeiaaDoor
open Go.RowKit Go.Proofs
theorem byte_at {s : Bs} {j : Nat} {c : UInt8} (h : s[j]? = some c) : ∀ hh, (⟨s.toArray⟩ : ByteArray)[j]'hh = c := by
  intro hh
  obtain ⟨hl, e⟩ := List.getElem?_eq_some_iff.1 h
  rw [← e]; rfl
/-- Where a run of digits ends. -/
def runD (s : Bs) (at_ : Nat) : Nat := at_ + ((s.drop at_).takeWhile dig).length
theorem run_step {s : Bs} {j : Nat} {c : UInt8} (h : s[j]? = some c) : runD s j = if dig c = true then runD s (j + 1) else j := by
  have hl := (List.getElem?_eq_some_iff.1 h).1
  unfold runD
  rw [List.drop_eq_getElem_cons hl]
  have : s[j] = c := by rw [List.getElem?_eq_getElem hl] at h; exact Option.some.inj h
  rw [this]
  by_cases hd : dig c = true
  · rw [if_pos hd, List.takeWhile_cons_of_pos hd, List.length_cons]; omega
  · rw [if_neg hd, List.takeWhile_cons_of_neg hd]; rfl
theorem run_end {s : Bs} : runD s s.length = s.length := by unfold runD; simp
set_option maxRecDepth 100000 in
set_option maxHeartbeats 1000000 in
theorem number_any (s : Bs) (p : Nat) (w : World) (hs : s.length ≤ 100000) (hp : p ≤ s.length) :
    Calls Tryd.prog 73 #[.string ⟨s.toArray⟩, .int .i64 p] w fun e w' => e = .returned (.int .i64 (runD s p : Nat)) ∧ Below w.heap.size w w' := by
  have z := bs_size s
  go_enter Tryd.func73, Tryd.ntmps73
  go_wp2_with fail
  go_loopw [1] (fun i wr => ∃ (j : Nat), i = .int .i64 j ∧ j ≤ s.length ∧ Hid (runD s j = runD s p) ∧ wr = w) (fun i _ => s.length - (intOf i).toNat)
  case atStart => exact ⟨p, rfl, hp, rfl, rfl⟩
  case round =>
    obtain ⟨j, rfl, hj, HX, rfl⟩ := hrel
    by_cases hlt : j < s.length
    · obtain ⟨c, hc⟩ : ∃ c, s[j]? = some c := ⟨_, List.getElem?_eq_getElem hlt⟩
      have hb := byte_at hc
      have HC := Lib.hid hc
      clear hc
      by_cases h1 : c.toNat < 48
      · have e1 : ¬ ((c.toNat : Nat) : Int) ≥ 48 := by omega
        have hd : dig c = false := by simp only [dig, decide_eq_false_iff_not]; omega
        go_wp2_with fail
        go_ret
        exact ⟨ret_i (by rw [← HX.out, run_step HC.out, hd]; rfl), Below.refl _ _⟩
      · by_cases h2 : c.toNat > 57
        · have e1 : ((c.toNat : Nat) : Int) ≥ 48 := by omega
          have e2 : ¬ ((c.toNat : Nat) : Int) ≤ 57 := by omega
          have hd : dig c = false := by simp only [dig, decide_eq_false_iff_not]; omega
          go_wp2_with fail
          go_ret
          exact ⟨ret_i (by rw [← HX.out, run_step HC.out, hd]; rfl), Below.refl _ _⟩
        · have e1 : ((c.toNat : Nat) : Int) ≥ 48 := by omega
          have e2 : ((c.toNat : Nat) : Int) ≤ 57 := by omega
          have hd : dig c = true := by simp only [dig, decide_eq_true_eq]; omega
          go_wp2_with fail
          go_roundw
          case rel => exact ⟨j + 1, by go_num, by omega, by unfold Hid; rw [← HX.out, run_step HC.out, hd]; rfl, by first | rfl | trivial⟩
          case measure => simp [intOf]; omega
    · obtain rfl : j = s.length := by omega
      go_wp2_with fail
      go_ret
      exact ⟨ret_i (by rw [← HX.out, run_end]), Below.refl _ _⟩
end Go.Proofs.YtfhpnkmhppfeiaaDoor
/- The reference: natural. -/
set_option linter.unusedVariables false
set_option linter.unusedSimpArgs false
namespace Go.Proofs.YtfhpnkmhppfeiaaDoor
open Go.RowKit Go.Proofs
/-- The value of a run of digits. -/
def valD (l : Bs) : Nat := l.foldl (fun a c => a * 10 + (c.toNat - 48)) 0
theorem valD_snoc (l : Bs) (c : UInt8) : valD (l ++ [c]) = valD l * 10 + (c.toNat - 48) := by simp [valD]
theorem valD_take {s : Bs} {j : Nat} {c : UInt8} (h : s[j]? = some c) : valD (s.take (j + 1)) = valD (s.take j) * 10 + (c.toNat - 48) := by
  rw [List.take_add_one, h, Option.toList_some, valD_snoc]
theorem valD_le (s : Bs) (j : Nat) : valD (s.take j) ≤ valD s := by
  have : ∀ (l r : Bs), valD l ≤ valD (l ++ r) := by
    intro l r
    induction r generalizing l with
    | nil => simp
    | cons c r ih =>
      have h1 := ih (l ++ [c])
      rw [valD_snoc] at h1
      rw [show l ++ c :: r = l ++ [c] ++ r by simp]
      omega
  have h := this (s.take j) (s.drop j)
  rwa [List.take_append_drop] at h
theorem digit_val : ∀ d : Nat, d < 10 → (UInt8.ofNat (48 + d)).toNat - 48 = d := by decide
theorem valD_dec (u : Nat) : valD (Lib.decDigits u) = u := by
  induction u using Nat.strongRecOn with
  | _ u ih =>
    by_cases h : u < 10
    · rw [Lib.decDigits, dif_pos h]; simp only [valD, List.foldl_cons, List.foldl_nil, Nat.zero_mul, Nat.zero_add]; exact digit_val u h
    · rw [Lib.decDigits, dif_neg h, valD_snoc, ih _ (by omega), digit_val _ (by omega)]; omega
theorem digit_ne : ∀ d : Nat, d < 10 → 1 ≤ d → UInt8.ofNat (48 + d) ≠ 48 := by decide
theorem dec_head (u : Nat) (h : 1 ≤ u) : (Lib.decDigits u).head? ≠ some 48 := by
  induction u using Nat.strongRecOn with
  | _ u ih =>
    by_cases h' : u < 10
    · rw [Lib.decDigits, dif_pos h']; intro e; simp only [List.head?_cons, Option.some.injEq] at e; exact digit_ne u h' h e
    · rw [Lib.decDigits, dif_neg h', List.head?_append]
      have := ih (u / 10) (by omega) (by omega)
      obtain ⟨c, r, e⟩ := List.exists_cons_of_ne_nil (dec_ne (u / 10))
      rw [e] at this ⊢
      simpa using this
theorem dec_lead {u : Nat} {s : Bs} (e : s = Lib.decDigits u) : s ≠ [] ∧ ¬ (1 < s.length ∧ s[0]? = some 48) := by
  subst e
  refine ⟨dec_ne u, fun ⟨h1, h2⟩ => ?_⟩
  rw [← List.head?_eq_getElem?] at h2
  by_cases h : 1 ≤ u
  · exact dec_head u h h2
  · obtain rfl : u = 0 := by omega
    rw [Lib.decDigits_one (by omega)] at h1
    simp at h1
/-- What natural answers. -/
def NatR (s : Bs) (w : World) (e : Ending) (w' : World) : Prop := ∃ (x : Nat) (b : Bool), e = .returned (.tuple #[.int .u64 x, .bool b]) ∧ x ≤ 9223372036854775807 ∧ (∀ n, s = Lib.decDigits n → n ≤ 9223372036854775807 → x = n ∧ b = true) ∧ Below w.heap.size w w'
set_option maxRecDepth 100000 in
set_option maxHeartbeats 1000000 in
theorem natural_any (s : Bs) (w : World) (hs : s.length ≤ 100000) :
    Calls Tryd.prog 74 #[.string ⟨s.toArray⟩, .int .u64 9223372036854775807] w (NatR s w) := by
  have z := bs_size s
  by_cases h0 : s = []
  · subst h0
    go_enter Tryd.func74, Tryd.ntmps74
    go_wp2_with fail
    go_ret2
    exact ⟨0, false, rfl, by omega, fun n e => ((dec_lead e).1 rfl).elim, Below.refl _ _⟩
  obtain ⟨c0, hc0⟩ : ∃ c, s[0]? = some c := by
    cases s with
    | nil => exact absurd rfl h0
    | cons c r => exact ⟨c, rfl⟩
  have hb0 := byte_at hc0
  have hem : s.isEmpty = false := by cases s with
    | nil => exact absurd rfl h0
    | cons c r => rfl
  have hlen : 0 < s.length := List.length_pos_iff.2 h0
  have HC0 := Lib.hid hc0
  clear hc0 h0
  by_cases hl : 1 < s.length ∧ c0 = 48
  · obtain ⟨hl, rfl⟩ := hl
    have e1 : ((s.length : Nat) : Int) > 1 := by omega
    go_enter Tryd.func74, Tryd.ntmps74
    go_wp2_with fail
    go_ret2
    exact ⟨0, false, rfl, by omega, fun n e => ((dec_lead e).2 ⟨hl, HC0.out⟩).elim, Below.refl _ _⟩
  by_cases hl1 : 1 < s.length
  · have e1 : ((s.length : Nat) : Int) > 1 := by omega
    have e2 : (((c0.toNat : Nat) : Int) == 48) = false := by
      rw [beq_eq_false_iff_ne]; intro e; exact hl ⟨hl1, UInt8.toNat_inj.1 (by have : c0.toNat = 48 := by omega
                                                                              rw [this]; rfl)⟩
    go_enter Tryd.func74, Tryd.ntmps74
    go_wp2_with fail
    clear hb0 e2
    go_loopw [6, 7] (fun x i wr => ∃ (j m : Nat), i = .int .i64 j ∧ x = .int .u64 m ∧ j ≤ s.length ∧ m ≤ 9223372036854775807 ∧ Hid (m = valD (s.take j)) ∧ wr = w) (fun _ i _ => s.length - (intOf i).toNat)
    case atStart => exact ⟨0, 0, rfl, rfl, Nat.zero_le _, by omega, rfl, rfl⟩
    case round =>
      obtain ⟨j, m, rfl, rfl, hj, hm, HX, rfl⟩ := hrel
      by_cases hlt : j < s.length
      · obtain ⟨c, hc⟩ : ∃ c, s[j]? = some c := ⟨_, List.getElem?_eq_getElem hlt⟩
        have hb := byte_at hc
        have HC := Lib.hid hc
        have hcu := c.toNat_lt
        clear hc
        have nd : Hid (dig c = false → ∀ n, s = Lib.decDigits n → n ≤ 9223372036854775807 → (0 : Nat) = n ∧ false = true) := fun hd n e _ => by
          have := dec_dig n c (e ▸ List.mem_of_getElem? HC.out)
          rw [hd] at this; cases this
        by_cases h1 : c.toNat < 48
        · have e3 : ((c.toNat : Nat) : Int) < 48 := by omega
          have hd : dig c = false := by simp only [dig, decide_eq_false_iff_not]; omega
          have HD := Lib.hid hd
          clear hd
          go_wp2_with fail
          go_ret2
          exact ⟨0, false, rfl, by omega, nd.out HD.out, Below.refl _ _⟩
        · by_cases h2 : c.toNat > 57
          · have e3 : ¬ ((c.toNat : Nat) : Int) < 48 := by omega
            have e4 : ((c.toNat : Nat) : Int) > 57 := by omega
            have hd : dig c = false := by simp only [dig, decide_eq_false_iff_not]; omega
            have HD := Lib.hid hd
            clear hd
            go_wp2_with fail
            go_ret2
            exact ⟨0, false, rfl, by omega, nd.out HD.out, Below.refl _ _⟩
          · have e3 : ¬ ((c.toNat : Nat) : Int) < 48 := by omega
            have e4 : ¬ ((c.toNat : Nat) : Int) > 57 := by omega
            obtain ⟨d, hd⟩ : ∃ d : Nat, c.toNat = 48 + d := ⟨c.toNat - 48, by omega⟩
            have hd9 : d ≤ 9 := by omega
            have HD := Lib.hid hd
            rw [hd] at e3 e4 h1 h2 hcu
            have hb2 : ∀ hh, ((⟨s.toArray⟩ : ByteArray)[j]'hh).toNat = 48 + d := fun hh => by rw [hb]; exact HD.out
            clear hb hd
            have hvt := valD_take HC.out
            have HVT : Hid (valD (s.take (j + 1)) = m * 10 + d) := by unfold Hid; rw [hvt, ← HX.out, HD.out]; omega
            clear hvt
            go_wp2_with fail
            · rename_i hov _ _
              go_ret2
              refine ⟨0, false, rfl, by omega, fun n e hn => ?_, Below.refl _ _⟩
              have h3 := valD_le s (j + 1)
              rw [HVT.out, e, valD_dec] at h3
              omega
            · rename_i hov
              have e5 : (10 * (m : Int) + (48 + (d : Int) - 48)) = ((m * 10 + d : Nat) : Int) := by omega
              rw [e5]
              go_roundw
              case rel => exact ⟨j + 1, m * 10 + d, by go_num, rfl, by omega, by omega, HVT.out.symm, by first | rfl | trivial⟩
              case measure => simp [intOf]; omega
      · obtain rfl : j = s.length := by omega
        go_wp2_with fail
        go_ret2
        exact ⟨m, true, rfl, hm, fun n e _ => ⟨by rw [HX.out, List.take_length, e, valD_dec], rfl⟩, Below.refl _ _⟩
  · have e1 : ¬ ((s.length : Nat) : Int) > 1 := by omega
    go_enter Tryd.func74, Tryd.ntmps74
    go_wp2_with fail
    clear hb0
    go_loopw [6, 7] (fun x i wr => ∃ (j m : Nat), i = .int .i64 j ∧ x = .int .u64 m ∧ j ≤ s.length ∧ m ≤ 9223372036854775807 ∧ Hid (m = valD (s.take j)) ∧ wr = w) (fun _ i _ => s.length - (intOf i).toNat)
    case atStart => exact ⟨0, 0, rfl, rfl, Nat.zero_le _, by omega, rfl, rfl⟩
    case round =>
      obtain ⟨j, m, rfl, rfl, hj, hm, HX, rfl⟩ := hrel
      by_cases hlt : j < s.length
      · obtain ⟨c, hc⟩ : ∃ c, s[j]? = some c := ⟨_, List.getElem?_eq_getElem hlt⟩
        have hb := byte_at hc
        have HC := Lib.hid hc
        have hcu := c.toNat_lt
        clear hc
        have nd : Hid (dig c = false → ∀ n, s = Lib.decDigits n → n ≤ 9223372036854775807 → (0 : Nat) = n ∧ false = true) := fun hd n e _ => by
          have := dec_dig n c (e ▸ List.mem_of_getElem? HC.out)
          rw [hd] at this; cases this
        by_cases h1 : c.toNat < 48
        · have e3 : ((c.toNat : Nat) : Int) < 48 := by omega
          have hd : dig c = false := by simp only [dig, decide_eq_false_iff_not]; omega
          have HD := Lib.hid hd
          clear hd
          go_wp2_with fail
          go_ret2
          exact ⟨0, false, rfl, by omega, nd.out HD.out, Below.refl _ _⟩
        · by_cases h2 : c.toNat > 57
          · have e3 : ¬ ((c.toNat : Nat) : Int) < 48 := by omega
            have e4 : ((c.toNat : Nat) : Int) > 57 := by omega
            have hd : dig c = false := by simp only [dig, decide_eq_false_iff_not]; omega
            have HD := Lib.hid hd
            clear hd
            go_wp2_with fail
            go_ret2
            exact ⟨0, false, rfl, by omega, nd.out HD.out, Below.refl _ _⟩
          · have e3 : ¬ ((c.toNat : Nat) : Int) < 48 := by omega
            have e4 : ¬ ((c.toNat : Nat) : Int) > 57 := by omega
            obtain ⟨d, hd⟩ : ∃ d : Nat, c.toNat = 48 + d := ⟨c.toNat - 48, by omega⟩
            have hd9 : d ≤ 9 := by omega
            have HD := Lib.hid hd
            rw [hd] at e3 e4 h1 h2 hcu
            have hb2 : ∀ hh, ((⟨s.toArray⟩ : ByteArray)[j]'hh).toNat = 48 + d := fun hh => by rw [hb]; exact HD.out
            clear hb hd
            have hvt := valD_take HC.out
            have HVT : Hid (valD (s.take (j + 1)) = m * 10 + d) := by unfold Hid; rw [hvt, ← HX.out, HD.out]; omega
            clear hvt
            go_wp2_with fail
            · rename_i hov _ _
              go_ret2
              refine ⟨0, false, rfl, by omega, fun n e hn => ?_, Below.refl _ _⟩
              have h3 := valD_le s (j + 1)
              rw [HVT.out, e, valD_dec] at h3
              omega
            · rename_i hov
              have e5 : (10 * (m : Int) + (48 + (d : Int) - 48)) = ((m * 10 + d : Nat) : Int) := by omega
              rw [e5]
              go_roundw
              case rel => exact ⟨j + 1, m * 10 + d, by go_num, rfl, by omega, by omega, HVT.out.symm, by first | rfl | trivial⟩
              case measure => simp [intOf]; omega
      · obtain rfl : j = s.length := by omega
        go_wp2_with fail
        go_ret2
        exact ⟨m, true, rfl, hm, fun n e _ => ⟨by rw [HX.out, List.take_length, e, valD_dec], rfl⟩, Below.refl _ _⟩
end Go.Proofs.YtfhpnkmhppfeiaaDoor
