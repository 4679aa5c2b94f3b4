/- terms.Parts: the iterator, with rounds that may leave. -/
import Derived.Test.YtfhpnkmhppfeiaaDoorA12
import Derived.Test.YtfhpnkmhppfeiaaDoorR14
import Derived.RangeFuncBox
set_option linter.unusedVariables false
set_option linter.unusedSimpArgs false
namespace Go.Proofs.YtfhpnkmhppfeiaaDoor
open Go.RowKit Go.Proofs Go.ChangeMaps
attribute [local go_sem] Oper.semAt_some
/-- A term with its value, as it lay in w0. -/
abbrev PE (w0 : World) := { p : Tm × Value // TR w0 (fun b => b < w0.heap.size) p.1 p.2 }
/-- What a round that goes on keeps: all that lay below N0; all cells but two boxes. -/
structure Kp (N0 bi br : Nat) (A B : World) : Prop where
  b : Below N0 A B
  c : ∀ (k : Nat) (o : Obj), k ≠ bi → k ≠ br → A.heap[k]? = some o → o.isCells = true → B.heap[k]? = some o
theorem Kp.refl (N0 bi br : Nat) (A : World) : Kp N0 bi br A A := ⟨Below.refl _ _, fun _ _ _ _ h _ => h⟩
theorem Kp.trans {N0 bi br : Nat} {A B C : World} (h : Kp N0 bi br A B) (k : Kp N0 bi br B C) : Kp N0 bi br A C := ⟨h.b.trans k.b, fun i o h1 h2 h3 h4 => k.c i o h1 h2 (h.c i o h1 h2 h3 h4) h4⟩
theorem Kp.alloc {N0 bi br : Nat} {A : World} (hN : N0 ≤ A.heap.size) (o : Obj) : Kp N0 bi br A (A.alloc o) :=
  ⟨(Below.refl _ _).alloc hN _, fun k o' _ _ h _ => (Below.heap_alloc _ _ _ (Array.getElem?_eq_some_iff.1 h).1).trans h⟩
theorem Kp.putObj {N0 bi br : Nat} {w : World} (hn : N0 ≤ w.heap.size) (W : World) (l : Nat) (o o' : Obj) (hl : w.heap.size ≤ l) (h : W.heap[l]? = some o) (hc : o.isCells = false) (hw : o.isWalk = false) : Kp N0 bi br W (W.putObj l o') :=
  ⟨belowK_b hn W l o o' hl h hc hw, fun k o2 _ _ h2 h3 => (World.putObj_heap_other fun e => by subst e; rw [h] at h2; cases h2; rw [hc] at h3; cases h3).trans h2⟩
theorem YieldAt.depth {m m' : Nat} {l : Nat} {args : Array Value} {W : World} {R : Ending → World → Prop} (h : YieldAt Fence.wide m Tryd.prog l args W R) : YieldAt Fence.wide m' Tryd.prog l args W R := by
  obtain ⟨fn, tmps, assign, body, hy, hR⟩ := h
  exact ⟨fn, tmps, assign, body, hy, hR.1, fun c cs _ => hR.2 c cs (room_wide _)⟩
/-- What the inner function answers. -/
def OverR {w0 : World} (N0 bi br : Nat) (J Jx : List (PE w0) → World → Prop) (pre : List (PE w0)) (us : List Tm) (W : World) (e : Ending) (W' : World) : Prop :=
  (e = .returned (.bool true) ∧ ∃ xs : List (PE w0), xs.map (·.1.1) = us ∧ J (pre ++ xs) W' ∧ Kp N0 bi br W W') ∨ (e = .returned (.bool false) ∧ ∃ xs : List (PE w0), xs.map (·.1.1) <+: us ∧ Jx (pre ++ xs) W')
set_option maxRecDepth 100000 in
set_option maxHeartbeats 2000000 in
theorem over_in {w0 : World} (bi br l B M : Nat) (J Jx : List (PE w0) → World → Prop) (hB : w0.heap.size ≤ B) (hJ : AbidesFrom B J) (hJx : AbidesFrom B Jx) (by_ bo : Nat) (hbi : bi < by_ ∧ br < by_) (hbo : by_ < bo) (hBy : B ≤ by_)
    (hY : ∀ pre x W1 m, J pre W1 → pre.length < M → YieldAt Fence.wide m Tryd.prog l #[x.1.2] W1 fun e W' => (e = .returned (.bool true) ∧ J (pre ++ [x]) W' ∧ Kp w0.heap.size bi br W1 W') ∨ (e = .returned (.bool false) ∧ Jx (pre ++ [x]) W')) :
    ∀ (N : Nat) (t : Tm) (v : Value) (pre : List (PE w0)) (W : World) (n : Nat), size t ≤ N → TR w0 (fun b => b < w0.heap.size) t v → Below w0.heap.size w0 W → J pre W → pre.length + size t ≤ M →
      W.heap[by_]? = some (.cells #[.func (.yield l) #[] #[]] 29 (0, 0)) → W.heap[bo]? = some (.cells #[.func (.func 66) #[] #[.pointer (some ⟨by_, 0, none⟩), .pointer (some ⟨bo, 0, none⟩)]] 29 (0, 0)) →
      CallsIn Fence.wide n Tryd.prog 66 #[v, .pointer (some ⟨by_, 0, none⟩), .pointer (some ⟨bo, 0, none⟩)] W (OverR w0.heap.size bi br J Jx pre (subs t) W) := by
  intro N
  induction N with
  | zero => intro t v pre W n h; have := size_pos t; omega
  | succ N ih =>
    rintro ⟨k, nn, args⟩ v pre W n hN hT hW hJp hM hby hbov
    have hT' := hT
    obtain ⟨s, rfl, hk, hn, hS⟩ := hT.inv
    obtain ⟨A, c, rfl, hc1, hc2⟩ := hS.form
    have HT := Lib.hid hT'
    have HS := Lib.hid hS
    have HW := Lib.hid hW
    have HN := Lib.hid hN
    have HM := Lib.hid hM
    have HBY := Lib.hid hby
    have HBO := Lib.hid hbov
    have hq1 := (blk_cell hby 0).trans rfl
    have hq2 := (blk_cell hbov 0).trans rfl
    have hbyl : by_ < W.heap.size := (Array.getElem?_eq_some_iff.1 hby).1
    have hbol : bo < W.heap.size := (Array.getElem?_eq_some_iff.1 hbov).1
    have hJ1 : J pre (W.alloc (.cells #[.int .i64 k, .int .i64 nn, .slice A args.length c] 25)) := hJ pre W _ none hJp (World.grownBy_alloc _ _ _) (fun r e => by cases e)
    obtain ⟨fn, tmps, assign, body, hy, hR⟩ := hY pre ⟨(.mk k nn args, .agg #[.int .i64 k, .int .i64 nn, .slice A args.length c]), hT'⟩ _ (n - 1) hJ1 (by simp only [size] at hM; omega)
    dsimp only at hy
    have HJ := Lib.hid hJ
    have HY := Lib.hid hY
    have HIH := Lib.hid ih
    clear hT hS hW hN hM hby hbov hJ hJx hJp hJ1 hY ih
    refine callsIn_of_wp Tryd.func66 rfl trivial ?_ rfl
    simp only [Tryd.ntmps66, List.size_toArray, List.length_cons, List.length_nil, Nat.reduceAdd, Nat.reduceSub, Array.replicate_succ, Array.replicate_zero, List.push_toArray, List.append_toArray, List.nil_append, List.cons_append]
    gi_wp2
    refine ⟨fun h => by simp [Fence.wide] at h, hR.mono ?_⟩
    rintro e W2 hres
    have HRES := Lib.hid hres
    clear hres hR hy
    rcases HRES.out with ⟨rfl, hJ2, hK2⟩ | ⟨rfl, hJ2⟩
    rotate_left
    · have HJ2 := Lib.hid hJ2
      clear hJ2 HRES
      gi_wp2
      go_ret
      exact .inr ⟨rfl, [⟨(.mk k nn args, .agg #[.int .i64 k, .int .i64 nn, .slice A args.length c]), HT.out⟩], by simp [subs], HJ2.out⟩
    have HJ2 := Lib.hid hJ2
    have HK2 := Lib.hid hK2
    clear hJ2 hK2 HRES
    have hWs : by_ < W.heap.size ∧ bo < W.heap.size := ⟨hbyl, hbol⟩
    have HX2 : Hid (W2.heap[W.heap.size]? = some (.cells #[.int .i64 k, .int .i64 nn, .slice A args.length c] 25 (0, 0))) := HK2.out.c _ _ (by omega) (by omega) (heap_alloc_new _ _) rfl
    have hx2 := (blk_cell HX2.out 2).trans rfl
    clear hq1 hq2
    gi_wp2
    have HW1 : Hid (Below w0.heap.size w0 (W.alloc (.cells #[.int .i64 k, .int .i64 nn, .slice A args.length c] 25))) := HW.out.alloc HW.out.size _
    gi_loopw [14] (fun i wr => ∃ (j : Nat) (xs : List (PE w0)), i = .int .i64 j ∧ j ≤ args.length ∧ Hid (xs.map (·.1.1) = .mk k nn args :: subsL (args.take j)) ∧ Hid (J (pre ++ xs) wr) ∧ Hid (Kp w0.heap.size bi br (W.alloc (.cells #[.int .i64 k, .int .i64 nn, .slice A args.length c] 25)) wr)) (fun i _ => args.length - (intOf i).toNat)
    case atStart => exact ⟨0, [⟨(.mk k nn args, .agg #[.int .i64 k, .int .i64 nn, .slice A args.length c]), HT.out⟩], rfl, Nat.zero_le _, by unfold Hid; simp [subsL], HJ2, HK2⟩
    case round =>
      clear HJ2 HK2 HX2 hx2
      obtain ⟨j, xs, rfl, hj, HXS, HJ2, HK2⟩ := hrel
      have HBY2 : Hid (wr.heap[by_]? = some (.cells #[.func (.yield l) #[] #[]] 29 (0, 0))) := HK2.out.c _ _ (by omega) (by omega) ((Below.heap_alloc _ _ _ hWs.1).trans HBY.out) rfl
      have HBO2 : Hid (wr.heap[bo]? = some (.cells #[.func (.func 66) #[] #[.pointer (some ⟨by_, 0, none⟩), .pointer (some ⟨bo, 0, none⟩)]] 29 (0, 0))) := HK2.out.c _ _ (by omega) (by omega) ((Below.heap_alloc _ _ _ hWs.2).trans HBO.out) rfl
      by_cases hlt : j < args.length
      · obtain ⟨a, ha⟩ : ∃ a, args[j]? = some a := ⟨_, List.getElem?_eq_getElem hlt⟩
        obtain ⟨b, o, A2, cc, rfl, hbb, hbs, c0, c1, c2, hTa⟩ := HS.out.at_ ha
        have HWR : Hid (Below w0.heap.size w0 wr) := HW1.out.trans HK2.out.b
        have d0 := (HWR.out.cell (p := ⟨b, o + j * 3, none⟩) hbs).trans c0
        have d1 := (HWR.out.cell (p := ⟨b, o + j * 3 + 1, none⟩) hbs).trans c1
        have d2 := (HWR.out.cell (p := ⟨b, o + j * 3 + 2, none⟩) hbs).trans c2
        have hbol2 : bo < wr.heap.size := (Array.getElem?_eq_some_iff.1 HBO2.out).1
        have hbyl2 : by_ < wr.heap.size := (Array.getElem?_eq_some_iff.1 HBY2.out).1
        have ho0 := (blk_cell HBO2.out 0).trans rfl
        have hxl : xs.length = 1 + sizeL (args.take j) := by have := congrArg List.length HXS.out; simpa [subsL_len, Nat.add_comm] using this
        have hst := sizeL_take ha
        have hst2 := sizeL_take_le args (j + 1)
        have hic := fun m => HIH.out a (.agg #[.int .i64 a.k, .int .i64 a.n, .slice A2 a.args.length cc]) (pre ++ xs) (wr.alloc (.cells #[.int .i64 a.k, .int .i64 a.n, .slice A2 a.args.length cc] 25)) m
          (by have := size_at (k := k) (n := nn) ha; have := HN.out; omega) hTa (HWR.out.alloc HWR.out.size _) (HJ.out _ wr _ none HJ2.out (World.grownBy_alloc _ _ _) (fun r e => by cases e))
          (by have := HM.out; simp only [size] at this; rw [List.length_append]; omega) ((Below.heap_alloc _ _ _ hbyl2).trans HBY2.out) ((Below.heap_alloc _ _ _ hbol2).trans HBO2.out)
        have HST := Lib.hid (subsL_take ha)
        have HSUB : Hid (subsL args = subsL (args.take (j + 1)) ++ subsL (args.drop (j + 1))) := by unfold Hid; rw [← subsL_append, List.take_append_drop]
        have HKA : Hid (Kp w0.heap.size bi br wr (wr.alloc (.cells #[.int .i64 a.k, .int .i64 a.n, .slice A2 a.args.length cc] 25))) := Kp.alloc HWR.out.size _
        clear ha c0 c1 c2 hTa hst hst2 hxl
        gi_wp2
        refine ⟨trivial, fun h => by simp [Fence.wide] at h, (hic _).mono ?_⟩
        clear hic
        rintro e W3 hres
        have HRES := Lib.hid hres
        clear hres
        rcases HRES.out with ⟨rfl, ys, hys, hJ3, hK3⟩ | ⟨rfl, ys, hys, hJ3⟩
        · have HYS := Lib.hid hys
          have HJ3 := Lib.hid hJ3
          have HK3 := Lib.hid hK3
          clear HRES hys hJ3 hK3
          gi_wp2
          go_roundw
          case rel =>
            refine ⟨j + 1, xs ++ ys, by go_num, by omega, ?_, ?_, HK2.out.trans (HKA.out.trans HK3.out)⟩
            · unfold Hid; rw [List.map_append, HXS.out, HYS.out, HST.out]; rfl
            · unfold Hid; rw [← List.append_assoc]; exact HJ3.out
          case measure => simp [intOf]; omega
        · have HYS := Lib.hid hys
          have HJ3 := Lib.hid hJ3
          clear HRES hys hJ3
          gi_wp2
          go_ret
          refine .inr ⟨rfl, xs ++ ys, ?_, by rw [← List.append_assoc]; exact HJ3.out⟩
          rw [List.map_append, HXS.out, subs, HSUB.out, HST.out]
          obtain ⟨z, hz⟩ := HYS.out
          exact ⟨z ++ subsL (args.drop (j + 1)), by rw [← hz]; simp⟩
      · obtain rfl : j = args.length := by omega
        rw [List.take_length] at HXS
        gi_wp2
        go_ret
        exact .inl ⟨rfl, xs, by rw [HXS.out]; rfl, HJ2.out, (Kp.alloc (Nat.le_trans HW.out.size (Nat.le_refl _)) _).trans HK2.out⟩
set_option maxRecDepth 100000 in
set_option maxHeartbeats 1000000 in
theorem parts_seq {w0 w1 : World} (n : Nat) (t : Tm) (k nn : Int) (A : Option Addr) (len c bt bi br : Nat) (hT : TR w0 (fun b => b < w0.heap.size) t (.agg #[.int .i64 k, .int .i64 nn, .slice A len c])) (hb : Below w0.heap.size w0 w1)
    (hbt : w1.heap[bt]? = some (.cells #[.int .i64 k, .int .i64 nn, .slice A len c] 25 (0, 0))) (hbi : bi < w1.heap.size) (hbr : br < w1.heap.size) :
    SeqStopsK Fence.wide n Tryd.prog 65 #[.pointer (some ⟨bt, 0, none⟩)] (fun x : PE w0 => #[x.1.2]) (Kp w0.heap.size bi br) (fun xs => xs.map (·.1.1) = subs t) (fun xs => xs.map (·.1.1) <+: subs t) (size t) w1 := by
  intro l J Jx W hW hJ hJx hY h0
  have hbtl := (Array.getElem?_eq_some_iff.1 hbt).1
  have hbtW := (hW.block bt hbtl).trans hbt
  have q0 := (blk_cell hbtW 0).trans rfl
  have q1 := (blk_cell hbtW 1).trans rfl
  have q2 := (blk_cell hbtW 2).trans rfl
  have hs := hW.size
  have hl0 : bt < W.heap.size := by omega
  have hl1 : bt < W.heap.size + 1 := by omega
  have hmf : ∀ (fn : Fn) (first cap : Array Value) (w : World), (Instr.makeFunc fn first cap).run Tryd.prog w = .ok (.func fn first cap) w := fun _ _ _ _ => rfl
  have hsf : ∀ (w : World) (a : Addr) (f : Fn) (x y : Array Value), Sem.run Tryd.prog (store a (.func f x y)) w = stored Tryd.prog w a (.func f x y) .plain := fun w a f x y => run_store _ w a _ _ rfl
  have hov := fun m => over_in (w0 := w0) bi br l W.heap.size (size t) J Jx (Nat.le_trans hb.size hs) hJ hJx W.heap.size (W.heap.size + 1) ⟨by omega, by omega⟩ (by omega) (Nat.le_refl _) (fun pre x W1 m h1 h2 => YieldAt.depth (hY pre x W1 h1 h2)) (size t) t _ []
    ((W.alloc (.cells #[.func (.yield l) #[] #[]] 29)).alloc (.cells #[.func (.func 66) #[] #[.pointer (some ⟨W.heap.size, 0, none⟩), .pointer (some ⟨W.heap.size + 1, 0, none⟩)]] 29)) m (Nat.le_refl _) hT
    (((hb.trans (hW.mono hb.size)).alloc (Nat.le_trans hb.size hs) _).alloc (by simp; exact Nat.le_succ_of_le (Nat.le_trans hb.size hs)) _) (hJ _ _ _ none (hJ _ _ _ none h0 (World.grownBy_alloc _ _ _) (fun r e => by cases e)) (World.grownBy_alloc _ _ _) (fun r e => by cases e)) (by simp)
    ((Below.heap_alloc _ _ _ (by simp)).trans (heap_alloc_new _ _)) (heap_alloc2 _ _ _)
  clear hbtW hW hs hbtl hJ hJx hY h0 hb hT
  refine callsIn_of_wp Tryd.func65 rfl trivial ?_ rfl
  simp only [Tryd.ntmps65, List.size_toArray, List.length_cons, List.length_nil, Nat.reduceAdd, Nat.reduceSub, Array.replicate_succ, Array.replicate_zero, List.push_toArray, List.append_toArray, List.nil_append, List.cons_append]
  gi_wp2
  refine ⟨trivial, fun h => by simp [Fence.wide] at h, (hov _).mono ?_⟩
  clear hov
  rintro e W3 hres
  have HRES := Lib.hid hres
  clear hres
  rcases HRES.out with ⟨rfl, xs, hxs, hJ3, hK3⟩ | ⟨rfl, xs, hxs, hJ3⟩
  · gi_wp2
    go_end0
    exact ⟨⟨_, rfl⟩, .inl ⟨xs, hxs, hJ3⟩⟩
  · gi_wp2
    go_end0
    exact ⟨⟨_, rfl⟩, .inr ⟨xs, hxs, hJ3⟩⟩
end Go.Proofs.YtfhpnkmhppfeiaaDoor
