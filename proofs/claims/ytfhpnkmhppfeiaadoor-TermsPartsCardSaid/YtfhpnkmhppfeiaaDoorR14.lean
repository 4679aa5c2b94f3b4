/- The law's walk: a term and all below it, appended to a row of the call's own. -/
import Derived.Test.YtfhpnkmhppfeiaaDoorR13
import Derived.Test.YtfhpnkmhppfeiaaDoorR8
import Derived.Test.YtfhpnkmhppfeiaaDoorA16
set_option linter.unusedVariables false
set_option linter.unusedSimpArgs false
namespace Go.Proofs.YtfhpnkmhppfeiaaDoor
open Go.RowKit Go.Proofs
theorem Grew.next {S S' : Nat → Prop} {a b c : World} (h : Grew S a b) (k : Grew S' b c) (hs : ∀ i, i < a.heap.size → S' i → S i) : Grew S a c :=
  ⟨k.os.trans h.os, k.tape.trans h.tape, k.output.trans h.output, Nat.le_trans h.size k.size, fun i hi hn => (k.block i (Nat.lt_of_lt_of_le hi h.size) fun hh => hn (hs i hi hh)).trans (h.block i hi hn)⟩
theorem subsL_len (l : List Tm) : (subsL l).length = sizeL l := by
  induction l with
  | nil => rfl
  | cons a r ih => simp only [subsL, sizeL, List.length_append, subs_len, ih]
theorem subsL_append (l m : List Tm) : subsL (l ++ m) = subsL l ++ subsL m := by
  induction l with
  | nil => rfl
  | cons a r ih => simp only [List.cons_append, subsL, ih, List.append_assoc]
theorem subsL_take {args : List Tm} {j : Nat} {a : Tm} (h : args[j]? = some a) : subsL (args.take (j + 1)) = subsL (args.take j) ++ subs a := by
  rw [List.take_add_one, h, subsL_append]; simp [subsL]
/-- What walk answers. -/
def WalkR (w : World) (base : Nat) (vl : Value) (us : List Tm) (e : Ending) (w' : World) : Prop :=
  ∃ v' cs', e = .returned v' ∧ w'.ownsRow base 25 3 v' us.length cs' ∧ CT w' (fun b => b < base) us cs' ∧ Grew (fun k => vl.ownBlock = some k) w w' ∧ (∀ k, v'.ownBlock = some k → vl.ownBlock = some k ∨ w.heap.size ≤ k)
set_option maxRecDepth 100000 in
set_option maxHeartbeats 1000000 in
theorem walk_any (base : Nat) : ∀ (N : Nat) (t : Tm) (v vl : Value) (ts : List Tm) (cs : List Value) (w : World), size t ≤ N → TR w (fun b => b < base) t v → w.ownsRow base 25 3 vl ts.length cs → CT w (fun b => b < base) ts cs → base ≤ w.heap.size →
    ts.length + size t ≤ 1000000 → Calls Tryd.prog 20 #[v, vl] w (WalkR w base vl (ts ++ subs t)) := by
  intro N
  induction N with
  | zero => intro t v vl ts cs w h; have := size_pos t; omega
  | succ N ih =>
    rintro ⟨k, n, args⟩ v vl ts cs w hN hT hO hC hB hlen
    have hT' := hT
    obtain ⟨s, rfl, hk, hn, hS⟩ := hT.inv
    obtain ⟨A, c, rfl, hc1, hc2⟩ := hS.form
    obtain ⟨Av, cv, rfl, hv1, hv2⟩ := own_form hO
    have hbase := own_base hO
    have hownlt := fun k hk => (hO.lt k hk).2
    have HOB : Hid (∀ k, (Value.slice Av ts.length cv).ownBlock = some k → base ≤ k ∧ k < w.heap.size) := fun k hk => ⟨hbase k hk, hownlt k hk⟩
    have HT := Lib.hid hT'
    have HS := Lib.hid hS
    have HO := Lib.hid hO
    have HC := Lib.hid hC
    have HN := Lib.hid hN
    have HL : Hid (ts.length + (1 + sizeL args) ≤ 1000000) := hlen
    have hlen1 : ts.length ≤ 1000000 := by omega
    clear hT hS hO hC hN hT' hbase hownlt hlen
    obtain ⟨i0, hi, hz0, hz1, hz2⟩ := info_parts info25
    go_enter Tryd.func20, Tryd.ntmps20
    go_wp2_with (at_builtin; refine wpList_append_own_at _ rfl _ _ 22 rfl base 25 i0 _ 3 40 Tryd.underlying22 hi hz0 hz1 hz2 rfl (by decide) (.slice Av ts.length cv) _ cs rfl ((HO.out.alloc _).alloc _) ⟨w.heap.size + 1, 0, none⟩ 1 1 [.int .i64 k, .int .i64 n, .slice A args.length c] rfl rfl (news3 (heap_alloc2 _ _ _)) (ones3 _ _ _ _ _) ?_ ?_ ?_ ?_; rotate_right; intro v1 w1 hown1 hg1 _ hloc; have H1 := Lib.hid hown1; have H2 := Lib.hid hg1; have H3 := Lib.hid hloc; clear hown1 hg1 hloc)
    case refine_1 => unfold maxLen; omega
    case refine_2 => omega
    case refine_3 => simp; omega
    have HG1 : Hid (Grew (fun k => (Value.slice Av ts.length cv).ownBlock = some k) w w1) :=
      ((Grew.alloc _ w _).trans (Grew.alloc _ _ _)).trans (Grew.of_grownBy H2.out fun k hk => hk)
    have HX1 : Hid (w1.heap[w.heap.size]? = some (.cells #[.int .i64 k, .int .i64 n, .slice A args.length c] 25 (0, 0))) := by
      refine (H2.out.block w.heap.size (by simp; omega) fun e => ?_).trans ?_
      · have := (HOB.out _ e.symm).2; omega
      · rw [Below.heap_alloc _ _ _ (by simp)]; exact heap_alloc_new _ _
    have HC1 : Hid (CT w1 (fun b => b < base) (ts ++ [.mk k n args]) (cs ++ [.int .i64 k, .int .i64 n, .slice A args.length c])) := by
      exact ((HC.out.grew HG1.out fun b hb e => by have := (HOB.out _ e).1; omega).snoc HO.out.1 (HT.out.grew HG1.out fun b hb e => by have := (HOB.out _ e).1; omega))
    have HV1 : Hid (∀ b, v1.ownBlock = some b → (Value.slice Av ts.length cv).ownBlock = some b ∨ w.heap.size < b) := fun b hb => by
      rcases H3.out with h | h
      · exact .inl (h ▸ hb)
      · rw [h] at hb
        have e : (((w.alloc (.cells #[.int .i64 k, .int .i64 n, .slice A args.length c] 25)).alloc (.cells #[.int .i64 k, .int .i64 n, .slice A args.length c] 25)).heap.size) = b := Option.some.inj hb
        simp at e; right; omega
    go_loopw [1, 5] (fun l i wr => ∃ (j : Nat) (cs : List Value), i = .int .i64 j ∧ j ≤ args.length ∧ Hid (wr.ownsRow base 25 3 l (ts ++ .mk k n args :: subsL (args.take j)).length cs) ∧ Hid (CT wr (fun b => b < base) (ts ++ .mk k n args :: subsL (args.take j)) cs) ∧
      Hid (Grew (fun k => (Value.slice Av ts.length cv).ownBlock = some k) w wr) ∧ Hid (wr.heap[w.heap.size]? = some (.cells #[.int .i64 k, .int .i64 n, .slice A args.length c] 25 (0, 0))) ∧ Hid (∀ b, l.ownBlock = some b → (Value.slice Av ts.length cv).ownBlock = some b ∨ w.heap.size < b)) (fun _ i _ => args.length - (intOf i).toNat)
    case atStart => exact ⟨0, _, rfl, Nat.zero_le _, by unfold Hid; simpa [subsL] using H1.out, by unfold Hid; simpa [subsL] using HC1.out, HG1, HX1, HV1⟩
    case round =>
      clear HG1 HX1 HC1 HV1 H1 H2 H3
      obtain ⟨j, cs1, rfl, hj, HO1, HC1, HG1, HX1, HV1⟩ := hrel
      have q2 := (blk_cell HX1.out 2).trans rfl
      by_cases hlt : j < args.length
      · obtain ⟨a, ha⟩ : ∃ a, args[j]? = some a := ⟨_, List.getElem?_eq_getElem hlt⟩
        obtain ⟨b, o, A2, cc, rfl, hbb, hbs, c0, c1, c2, hTa⟩ := HS.out.at_ ha
        have hno : ∀ b, b < base → ¬ (Value.slice Av ts.length cv).ownBlock = some b := fun b hb e => by have := (HOB.out _ e).1; omega
        have d0 := HG1.out.cell c0 (hno b hbb)
        have d1 := HG1.out.cell c1 (hno b hbb)
        have d2 := HG1.out.cell c2 (hno b hbb)
        have hsz := sizeL_take ha
        have hsz2 := sizeL_take_le args (j + 1)
        have hll : (ts ++ .mk k n args :: subsL (args.take j)).length = ts.length + 1 + sizeL (args.take j) := by simp [subsL_len]; omega
        have hic := ih a _ u1 _ cs1 wr (by have := size_at (k := k) (n := n) ha; have := HN.out; omega) (hTa.grew HG1.out hno) HO1.out HC1.out (by have := HG1.out.size; omega) (by have := HL.out; omega)
        rw [List.append_assoc, List.cons_append, ← subsL_take ha] at hic
        clear ha c0 c1 c2 hTa hsz hsz2 hll hno
        go_wp2_with (go_at_call 20; refine hic.mono ?_; clear hic; rintro e w2 ⟨v2, cs2, rfl, hO2, hC2, hG2, hV2⟩; have HO2 := Lib.hid hO2; have HC2 := Lib.hid hC2; have HG2 := Lib.hid hG2; have HV2 := Lib.hid hV2; clear hO2 hC2 hG2 hV2)
        go_roundw
        case rel =>
          refine ⟨j + 1, cs2, by go_num, by omega, HO2, HC2, ?_, ?_, ?_⟩
          · exact HG1.out.next HG2.out fun i hi e => by
              rcases HV1.out i e with h | h
              · exact h
              · omega
          · exact HG2.out.heap HX1.out fun e => by
              rcases HV1.out _ e with h | h
              · have := (HOB.out _ h).2; omega
              · omega
          · intro b hb
            rcases HV2.out b hb with h | h
            · exact HV1.out b h
            · right; have := (Array.getElem?_eq_some_iff.1 HX1.out).1; omega
        case measure => simp [intOf]; omega
      · obtain rfl : j = args.length := by omega
        rw [List.take_length] at HO1 HC1
        go_wp2_with fail
        go_ret
        exact ⟨u1, cs1, rfl, HO1.out, HC1.out, HG1.out, fun b hb => by
          rcases HV1.out b hb with h | h
          · exact .inl h
          · right; omega⟩
end Go.Proofs.YtfhpnkmhppfeiaaDoor
