/- The law's once: Parts gone over, up to a number of them. -/
import Derived.Test.YtfhpnkmhppfeiaaDoorP1
import Derived.Test.YtfhpnkmhppfeiaaDoorR11
import Derived.Test.YtfhpnkmhppfeiaaDoorR15
import Derived.RangeFuncNested
set_option linter.unusedVariables false
set_option linter.unusedSimpArgs false
namespace Go.Proofs.YtfhpnkmhppfeiaaDoor
open Go.RowKit Go.Proofs Go.ChangeMaps
attribute [local go_sem] Oper.semAt_some
set_option maxRecDepth 100000 in
set_option maxHeartbeats 1000000 in
theorem parts_any (k n : Int) (A : Option Addr) (l c : Nat) (w : World) : Calls Tryd.prog 42 #[.agg #[.int .i64 k, .int .i64 n, .slice A l c]] w fun e w' => e = .returned (.func (.func 65) #[] #[.pointer (some ⟨w.heap.size, 0, none⟩)]) ∧ w' = w.alloc (.cells #[.int .i64 k, .int .i64 n, .slice A l c] 25) := by
  have hmf : ∀ (fn : Fn) (first cap : Array Value) (w : World), (Instr.makeFunc fn first cap).run Tryd.prog w = .ok (.func fn first cap) w := fun _ _ _ _ => rfl
  go_enter Tryd.func42, Tryd.ntmps42
  go_wp2
  go_ret
  exact ⟨rfl, rfl⟩
theorem round_region_later {k m id : Nat} {ops : List Oper} {Q : Exit → Act → World → Prop} {a : Act} {w : World} (n : Nat) (hB : Region.lexB .any ops.toArray = true) (hd : noDefer ops = true)
    (h : wpQuiet Tryd.prog ops.toArray (fun w' => ∃ x : Later n w, w' = x.w) (fun a' => ∀ x : Later n w, Q .normal a' x.w) ops a) : (Code.region id ops.toArray true).wpIn (Fence.wide.inRound k) m Tryd.prog Q a w := by
  have hC : (fun w' => ∃ x : Later n w, w' = x.w) { w with drawn := w.drawn + 1 } := ⟨⟨w.drew, (Below.refl _ _).drew⟩, rfl⟩
  have e : (fun a' => ∀ w', (∃ x : Later n w, w' = x.w) → Q .normal a' w') = fun a' => ∀ x : Later n w, Q .normal a' x.w := by
    funext a'
    exact propext ⟨fun h x => h _ ⟨x, rfl⟩, fun h w' ⟨x, e⟩ => e ▸ h x⟩
  rw [← e] at h
  refine region_round (by kernel_rfl) hd ?_
  simp only [Region.lexB, Bool.and_eq_true] at hB
  refine wpAny_of_quiet (C := fun w' => ∃ x : Later n w, w' = x.w) (Q := fun a' => ∀ w', (∃ x : Later n w, w' = x.w) → Q .normal a' w') (fun a' w' hw' h => (show (QN fun a w => Q .normal a w) .normal a' w' from h w' hw')) _ _ _ _ hC ?_
  have := wpAnyQ_lex (P := Tryd.prog) (C := fun w' => ∃ x : Later n w, w' = x.w) (md := .any) hB.1 ops.toArray.toList 0 (Array.replicate ops.toArray.size false) a (by simp) (by simpa using hB.2) (by simpa using h)
  simpa using this
theorem own_keep {B : Nat} {W W' : World} {row : Option Nat} {k : Nat} {cs : Array Value} {ty : TypeId} {fr : Nat × Nat} (hg : W.grownBy W' row) (hr : ∀ r, row = some r → B ≤ r ∧ ∃ o : Obj, W.heap[r]? = some o ∧ o.isCells = false)
    (h : W.heap[k]? = some (.cells cs ty fr)) : W'.heap[k]? = some (.cells cs ty fr) :=
  (hg.block k (Array.getElem?_eq_some_iff.1 h).1 fun e => by
    obtain ⟨_, o, ho, hc⟩ := hr k e.symm
    rw [h] at ho; cases ho; cases hc).trans h
/-- Between two rounds of once. -/
structure OI (w : World) (B b5 b6 : Nat) (most : Int) (us : List Tm) (sl : Value) (pre : List (PE w)) (W : World) : Prop where
  hB : w.heap.size + 3 ≤ b5 ∧ b5 < b6 ∧ b6 < B ∧ B ≤ W.heap.size
  below : Below w.heap.size w W
  h3 : W.heap[w.heap.size + 1]? = some (.cells #[.int .i64 most] 3 (0, 0))
  h4 : W.heap[w.heap.size + 1 + 1]? = some (.cells #[.bool false] 4 (0, 0))
  h5 : W.heap[b5]? = some (.cells #[sl] 22 (0, 0))
  ts : TS W (fun b => b < b5) us sl
  h6 : W.heap[b6]? = some (.cells #[.int .i64 pre.length] 3 (0, 0))
  hp : pre.map (·.1.1) = us.take pre.length
  hm : ∀ k : Nat, 1 ≤ k → k ≤ pre.length → (k : Int) ≠ most
theorem OI.bel {w : World} {B b5 b6 : Nat} {most : Int} {us : List Tm} {sl : Value} {pre : List (PE w)} {W W' : World} (h : OI w B b5 b6 most us sl pre W) (hb : Below W.heap.size W W') : OI w B b5 b6 most us sl pre W' := by
  obtain ⟨e1, e2, e3, e4⟩ := h.hB
  exact ⟨⟨e1, e2, e3, Nat.le_trans e4 hb.size⟩, bthen h.below hb, (hb.block _ (Array.getElem?_eq_some_iff.1 h.h3).1).trans h.h3, (hb.block _ (Array.getElem?_eq_some_iff.1 h.h4).1).trans h.h4, (hb.block _ (Array.getElem?_eq_some_iff.1 h.h5).1).trans h.h5, h.ts.bel hb, (hb.block _ (Array.getElem?_eq_some_iff.1 h.h6).1).trans h.h6, h.hp, h.hm⟩
theorem OI.next {w : World} {B b5 b6 : Nat} {most : Int} {us : List Tm} {sl : Value} {pre : List (PE w)} {x : PE w} {W : World} (h : OI w B b5 b6 most us sl pre W) (hx : us[pre.length]? = some x.1.1) (hm : (pre.length : Int) + 1 ≠ most) :
    OI w B b5 b6 most us sl (pre ++ [x]) (W.setCell ⟨b6, 0, none⟩ (.int .i64 ((pre.length : Int) + 1))) := by
  obtain ⟨e1, e2, e3, e4⟩ := h.hB
  have o : ∀ k, k ≠ b6 → (W.setCell ⟨b6, 0, none⟩ (.int .i64 ((pre.length : Int) + 1))).heap[k]? = W.heap[k]? := fun k hk => Below.heap_setCell _ _ _ _ hk
  refine ⟨⟨e1, e2, e3, by simpa [World.setCell] using e4⟩, h.below.setCell (p := ⟨b6, 0, none⟩) (by simp; omega) _, (o _ (by omega)).trans h.h3, (o _ (by omega)).trans h.h4, (o _ (by omega)).trans h.h5, h.ts.keep (fun b hb _ => ⟨o b (by omega), hb⟩), ?_, ?_, ?_⟩
  · exact (blk_set h.h6 0 _).trans (by simp)
  · rw [List.map_append, h.hp, List.length_append, List.length_singleton, List.take_add_one, hx]; rfl
  · intro k h1 h2
    rw [List.length_append, List.length_singleton] at h2
    rcases Nat.lt_succ_iff_lt_or_eq.1 (Nat.lt_succ_of_le h2) with h3 | rfl
    · exact h.hm k h1 (by omega)
    · push_cast; exact hm
theorem others_of {W W' : World} (h : Below W.heap.size W W') : KeepsOthers W W' := ⟨h.size, fun k o hk _ => (h.block k (Array.getElem?_eq_some_iff.1 hk).1).trans hk⟩
theorem prefix_at {α β : Type} {f : α → β} {pre : List α} {x : α} {us : List β} (h : (pre ++ [x]).map f <+: us) : us[pre.length]? = some (f x) := by
  obtain ⟨z, rfl⟩ := h
  simp
/-- Where a round has left. -/
structure OX (w : World) (B : Nat) (us : List Tm) (c : Code) (pre : List (PE w)) (W : World) : Prop where
  hc : c = .ret
  hB : w.heap.size + 3 ≤ B
  below : Below w.heap.size w W
  h4 : ∃ b : Bool, W.heap[w.heap.size + 1 + 1]? = some (.cells #[.bool b] 4 (0, 0)) ∧ (b = true ∨ ¬ pre.map (·.1.1) <+: us)
theorem OI.own {w : World} {B b5 b6 : Nat} {most : Int} {us : List Tm} {sl : Value} : OwnFrom B (OI w B b5 b6 most us sl) := fun s W W' row h hg hr => by
  obtain ⟨e1, e2, e3, e4⟩ := h.hB
  refine ⟨⟨e1, e2, e3, Nat.le_trans e4 hg.size⟩, h.below.grown hg h.below.size (fun k e => by have := (hr k e).1; omega), own_keep hg hr h.h3, own_keep hg hr h.h4, own_keep hg hr h.h5, ?_, own_keep hg hr h.h6, h.hp, h.hm⟩
  exact h.ts.keep fun b hb hlt => ⟨hg.block b hlt fun e => by have := (hr b e.symm).1; omega, hb⟩
theorem OX.own {w : World} {B : Nat} {us : List Tm} {c : Code} : OwnFrom B (OX w B us c) := fun s W W' row h hg hr => by
  have e1 := h.hB
  obtain ⟨b, hb, h2⟩ := h.h4
  exact ⟨h.hc, h.hB, h.below.grown hg h.below.size (fun k e => by have := (hr k e).1; omega), b, own_keep hg hr hb, h2⟩
set_option maxRecDepth 100000 in
set_option maxHeartbeats 2000000 in
theorem once_any (t : Tm) (v : Value) (most : Int) (hmost : i64 most) (w : World) (hT : TR w Any t v) (hsz : size t ≤ 300) :
    Calls Tryd.prog 23 #[v, .int .i64 most] w fun e w' => e = .returned (.bool true) ∧ Below w.heap.size w w' := by
  obtain ⟨A, c, rfl⟩ := hT.form3
  have HT := Lib.hid hT.past
  have HSZ := Lib.hid hsz
  have HMO := Lib.hid hmost
  clear hT hsz hmost
  obtain ⟨n, hn, h1, h2⟩ : ∃ n, 5 ≤ n ∧ 1 ≤ n ∧ 1 ≤ n - 1 := ⟨5, by omega, by omega, by omega⟩
  refine callsIn_wide (n := n).1 ?_
  refine callsIn_of_wp_marks Tryd.func23 rfl trivial ?_ rfl
  simp only [Tryd.ntmps23, List.size_toArray, List.length_cons, List.length_nil, Nat.reduceAdd, Nat.reduceSub, Array.replicate_succ, Array.replicate_zero, List.push_toArray, List.append_toArray, List.nil_append, List.cons_append]
  gi_wp2
  obtain ⟨W0, hW0⟩ : ∃ W0 : World, W0 = ((w.alloc (.cells #[.int .i64 t.k, .int .i64 t.n, .slice A t.args.length c] 25)).alloc (.cells #[.int .i64 most] 3)).alloc (.cells #[.bool false] 4) := ⟨_, rfl⟩
  have HB0 : Hid (Below w.heap.size w W0) := by rw [hW0]; exact balloc (balloc (bself w _) _) _
  have HS0 : Hid (W0.heap.size = w.heap.size + 3) := by rw [hW0]; unfold Hid; simp
  have H20 : Hid (W0.heap[w.heap.size]? = some (.cells #[.int .i64 t.k, .int .i64 t.n, .slice A t.args.length c] 25 (0, 0))) := by
    rw [hW0]; unfold Hid; rw [Below.heap_alloc _ _ _ (by simp <;> omega), Below.heap_alloc _ _ _ (by simp)]; exact heap_alloc_new _ _
  have H30 : Hid (W0.heap[w.heap.size + 1]? = some (.cells #[.int .i64 most] 3 (0, 0))) := by rw [hW0]; unfold Hid; rw [Below.heap_alloc _ _ _ (by simp)]; exact heap_alloc2 _ _ _
  have H40 : Hid (W0.heap[w.heap.size + 1 + 1]? = some (.cells #[.bool false] 4 (0, 0))) := by rw [hW0]; exact heap_alloc3 _ _ _ _
  rw [← hW0]
  clear hW0
  refine ⟨trivial, (callsIn_wide.2 (walk_any W0.heap.size _ t _ (.slice none 0 0) [] [] W0 (Nat.le_refl _) ((HT.out.bel HB0.out).mono fun b hb _ => Nat.lt_of_lt_of_le hb HB0.out.size) (World.ownsRow_nil _ _ _ _) (fun j t h => by simp at h) (Nat.le_refl _) (by have := HSZ.out; simp; omega))).mono ?_⟩
  rintro e w2 ⟨vw, cs, rfl, hO, hC, hG, _⟩
  obtain ⟨Aw, cw, rfl, _, _⟩ := own_form hO
  have HTW : Hid (TS w2 Any (subs t) (.slice Aw (subs t).length cw)) := CT.ts hO hC
  have hb2 : Below W0.heap.size W0 w2 := hG.below (Nat.le_refl _) fun k hk => by cases hk
  have HB2 : Hid (Below w.heap.size w w2) := bthen HB0.out hb2
  have HS2 : Hid (w.heap.size + 3 ≤ w2.heap.size) := by have := hb2.size; have := HS0.out; unfold Hid; omega
  have H32 : Hid (w2.heap[w.heap.size + 1]? = some (.cells #[.int .i64 most] 3 (0, 0))) := (hb2.block _ (by have := HS0.out; omega)).trans H30.out
  have H42 : Hid (w2.heap[w.heap.size + 1 + 1]? = some (.cells #[.bool false] 4 (0, 0))) := (hb2.block _ (by have := HS0.out; omega)).trans H40.out
  have H22 : Hid (w2.heap[w.heap.size]? = some (.cells #[.int .i64 t.k, .int .i64 t.n, .slice A t.args.length c] 25 (0, 0))) := (hb2.block _ (by have := HS0.out; omega)).trans H20.out
  clear hO hC hG hb2 HB0 HS0 H20 H30 H40
  have hl0 : w.heap.size < w2.heap.size := by have := HS2.out; omega
  have hl1 : w.heap.size < w2.heap.size + 1 := by omega
  have q0 := (blk_cell H22.out 0).trans rfl
  have q1 := (blk_cell H22.out 1).trans rfl
  have q2 := (blk_cell H22.out 2).trans rfl
  gi_wp2
  have hbo : ∀ (p : Value) (w : World), Sem.run Tryd.prog (binOp .eql 62 (.func (.func 65) #[] #[p]) .nilFunc) w = .ok (.bool false) w := fun _ _ => by rfl
  refine ⟨trivial, (callsIn_wide.2 (parts_any _ _ _ _ _ _)).mono ?_⟩
  rintro e w3 ⟨rfl, rfl⟩
  gi_wp2
  obtain ⟨W3, hW3⟩ : ∃ W3 : World, W3 = ((w2.alloc (.cells #[.slice Aw (subs t).length cw] 22)).alloc (.cells #[.int .i64 0] 3)).alloc (.cells #[.int .i64 t.k, .int .i64 t.n, .slice A t.args.length c] 25) := ⟨_, rfl⟩
  have HS3 : Hid (W3.heap.size = w2.heap.size + 3) := by rw [hW3]; unfold Hid; simp
  have HB23 : Hid (Below w2.heap.size w2 W3) := by rw [hW3]; exact balloc (balloc (bself w2 _) _) _
  have H73 : Hid (W3.heap[w2.heap.size + 1 + 1]? = some (.cells #[.int .i64 t.k, .int .i64 t.n, .slice A t.args.length c] 25 (0, 0))) := by rw [hW3]; exact heap_alloc3 _ _ _ _
  have HOI : Hid (OI w W3.heap.size w2.heap.size (w2.heap.size + 1) most (subs t) (.slice Aw (subs t).length cw) [] W3) := by
    have hs2 := HS2.out
    have hs3 := HS3.out
    refine ⟨⟨hs2, by omega, by omega, Nat.le_refl _⟩, bthen HB2.out HB23.out, (HB23.out.block _ (by omega)).trans H32.out, (HB23.out.block _ (by omega)).trans H42.out, ?_, (HTW.out.past.keep fun b hb hlt => ⟨HB23.out.block b hlt, hb⟩), ?_, by simp, fun k h1 h2 => by simp at h2; omega⟩
    · rw [hW3, Below.heap_alloc _ _ _ (by simp <;> omega), Below.heap_alloc _ _ _ (by simp)]; exact heap_alloc_new _ _
    · rw [hW3, Below.heap_alloc _ _ _ (by simp)]; exact heap_alloc2 _ _ _
  rw [← hW3]
  clear hW3
  have hB3 : Below w.heap.size w W3 := bthen HB2.out HB23.out
  refine wpIn_rangeFunc_ownH (α := PE w) (F := Fence.wide) rfl h1 (gf := 65) (lb := #[.pointer (some ⟨w2.heap.size + 1 + 1, 0, none⟩)]) rfl trivial (fun _ _ => rfl)
    (parts_seq (n - 1) t _ _ _ _ _ _ (w2.heap.size + 1) (w.heap.size + 1 + 1) HT.out hB3 H73.out (by have := HS3.out; omega) (by have := HS3.out; have := HS2.out; omega))
    Kp.trans (fun W l o o' hl h hc hw => Kp.putObj hB3.size W l o o' hl h hc hw) (Below.refl _ _) (fun _ => rfl)
    (OI w W3.heap.size w2.heap.size (w2.heap.size + 1) most (subs t) (.slice Aw (subs t).length cw)) (OX w W3.heap.size (subs t)) OI.own (fun c => OX.own) HOI.out
    (fun x a' W => ∃ (b8 : Nat) (Ax : Option Addr) (cx : Nat), x.1.2 = .agg #[.int .i64 x.1.1.k, .int .i64 x.1.1.n, .slice Ax x.1.1.args.length cx] ∧ a' = { tmps := #[.agg #[.int .i64 t.k, .int .i64 t.n, .slice A t.args.length c], .int .i64 most, .pointer (some ⟨w.heap.size, 0, none⟩), .pointer (some ⟨w.heap.size + 1, 0, none⟩), .pointer (some ⟨w.heap.size + 1 + 1, 0, none⟩), .pointer (some ⟨w2.heap.size, 0, none⟩), .pointer (some ⟨w2.heap.size + 1, 0, none⟩), .func (.func 65) #[] #[.pointer (some ⟨w2.heap.size + 1 + 1, 0, none⟩)], .pointer (some ⟨b8, 0, none⟩), .agg #[.int .i64 t.k, .int .i64 t.n, .slice A t.args.length c], .slice Aw (subs t).length cw, .agg #[.int .i64 t.k, .int .i64 t.n, .slice A t.args.length c], .func (.func 65) #[] #[.pointer (some ⟨w2.heap.size + 1 + 1, 0, none⟩)], .func (.func 65) #[] #[.pointer (some ⟨w2.heap.size + 1 + 1, 0, none⟩)], .bool false, .func (.func 65) #[] #[.pointer (some ⟨w2.heap.size + 1 + 1, 0, none⟩)], x.1.2, undef, undef, undef, undef, undef, undef, undef, undef, undef, undef, undef, undef, undef, undef, undef, undef, undef, undef, undef, undef, undef, undef], defers := [] } ∧ W3.heap.size ≤ b8 ∧ W.heap[b8]? = some (.cells #[.int .i64 x.1.1.k, .int .i64 x.1.1.n, .slice Ax x.1.1.args.length cx] 25 (0, 0)))
    ?_ ?_ ?_ ?_ ?_
  · intro x a' s W W' row hs hg hr
    obtain ⟨b8, Ax, cx, e1, e2, e3, e4⟩ := hs
    exact ⟨b8, Ax, cx, e1, e2, e3, own_keep hg hr e4⟩
  · intro l pre x W K hI hK
    obtain ⟨Ax, cx, hx⟩ := x.2.form3
    have HI := Lib.hid hI
    have HK := Lib.hid hK
    clear hI hK
    have e16 : ∀ (T : Array Value) (v : Value), ((#[16] : Array Tmp).zip #[v]).foldl (fun t (p, v) => t.setIfInBounds p v) T = T.setIfInBounds 16 v := fun T v => by simp [Array.zip]
    rw [e16, hx]
    simp only [List.setIfInBounds_toArray, List.set_cons_succ, List.set_cons_zero]
    gi_wp2
    refine HK.out _ _ ((KeepsOthers.alloc _ _).from _) (Kp.alloc HI.out.below.size _) (OI.own.alloc _ HI.out) ⟨W.heap.size, Ax, cx, hx, by rw [hx], HI.out.hB.2.2.2, heap_alloc_new _ _⟩
  · intro l pre x a' W hl hL hI hA hlen
    obtain ⟨b8, Ax, cx, hx, rfl, hb8, h8⟩ := hA
    rw [hx]
    rw [← subs_len] at hlen
    have HI := Lib.hid hI
    have HHX := Lib.hid hx
    obtain ⟨e1, e2, e3, e4⟩ := hI.hB
    obtain ⟨y, hy⟩ : ∃ y, (subs t)[pre.length]? = some y := ⟨_, List.getElem?_eq_getElem hlen⟩
    obtain ⟨b, o, A3, c3, rfl, hbb, hbs, c0, c1, c2, hTy⟩ := hI.ts.at_ hy
    have HY := Lib.hid hy
    have h8l : b8 < W.heap.size := (Array.getElem?_eq_some_iff.1 h8).1
    have hlt : (pre.length : Int) < ((subs t).length : Int) := by omega
    have hd : decide (((subs t).length : Int) ≤ (pre.length : Int)) = false := by simp; omega
    have l60 : ∀ z : Later W.heap.size W, z.w.cell? ⟨w2.heap.size + 1, 0, none⟩ = some (.int .i64 pre.length) := fun z => z.cell ((blk_cell HI.out.h6 0).trans rfl) (by simp; omega)
    have l50 : ∀ z : Later W.heap.size W, z.w.cell? ⟨w2.heap.size, 0, none⟩ = some (.slice (some ⟨b, o, none⟩) (subs t).length cw) := fun z => z.cell ((blk_cell HI.out.h5 0).trans rfl) (by simp; omega)
    have l80 : ∀ z : Later W.heap.size W, z.w.cell? ⟨b8, 0, none⟩ = some (.int .i64 x.1.1.k) := fun z => z.cell ((blk_cell h8 0).trans rfl) h8l
    have l81 : ∀ z : Later W.heap.size W, z.w.cell? ⟨b8, 1, none⟩ = some (.int .i64 x.1.1.n) := fun z => z.cell ((blk_cell h8 1).trans rfl) h8l
    have l82 : ∀ z : Later W.heap.size W, z.w.cell? ⟨b8, 2, none⟩ = some (.slice Ax x.1.1.args.length cx) := fun z => z.cell ((blk_cell h8 2).trans rfl) h8l
    have d0 : ∀ z : Later W.heap.size W, z.w.cell? ⟨b, o + pre.length * 3, none⟩ = some (.int .i64 y.k) := fun z => z.cell c0 hbs
    have d1 : ∀ z : Later W.heap.size W, z.w.cell? ⟨b, o + pre.length * 3 + 1, none⟩ = some (.int .i64 y.n) := fun z => z.cell c1 hbs
    have d2 : ∀ z : Later W.heap.size W, z.w.cell? ⟨b, o + pre.length * 3 + 2, none⟩ = some (.slice A3 y.args.length c3) := fun z => z.cell c2 hbs
    have hic : Hid (∀ z : Later W.heap.size W, Calls Tryd.prog 21 #[.agg #[.int .i64 x.1.1.k, .int .i64 x.1.1.n, .slice Ax x.1.1.args.length cx], .agg #[.int .i64 y.k, .int .i64 y.n, .slice A3 y.args.length c3]] z.w fun e w' => e = .returned (.bool (eqT x.1.1 y)) ∧ Below z.w.heap.size z.w w') := fun z =>
      Equal_any _ x.1.1 y _ _ z.w (Nat.le_refl _) (((hx ▸ x.2).any.bel HI.out.below).bel z.2) (hTy.any.bel z.2)
    clear hI h8 c0 c1 c2 hTy hx hL hy
    obtain ⟨r, hr⟩ : ∃ r, r = eqT x.1.1 y := ⟨_, rfl⟩
    rw [← hr] at hic
    have HR := Lib.hid hr
    clear hr
    gi_wp2
    refine round_region_later W.heap.size (by kernel_rfl) (by kernel_rfl) ?_
    repeat (first | go_big_quiet_step ((go_at_call 21; exact later_call (hic.out _) (Nat.le_refl _))) | quiet_step ((go_at_call 21; exact later_call (hic.out _) (Nat.le_refl _))))
    refine wpQuiet_nil (later_all ?_)
    intro wx hx
    have HIX := Lib.hid (HI.out.bel hx)
    have HX := Lib.hid hx
    clear hx l60 l50 l80 l81 l82 d0 d1 d2
    have p60 := (blk_cell HIX.out.h6 0).trans rfl
    have g60 := blk_free HIX.out.h6 0
    have p30 := (blk_cell HIX.out.h3 0).trans rfl
    have p40 := (blk_cell HIX.out.h4 0).trans rfl
    have g40 := blk_free HIX.out.h4 0
    have hl300 : pre.length < 300 := by have := HSZ.out; rw [subs_len] at hlen; omega
    have hn1 : w.heap.size + 1 ≠ w2.heap.size + 1 := by omega
    have hn2 : w.heap.size + 1 + 1 ≠ w2.heap.size + 1 := by omega
    cases r with
    | false =>
      have hc : (subs t).length ≤ pre.length ∨ (!false) = true := .inr rfl
      have hcb : (decide ((subs t).length ≤ pre.length) || !false) = true := by simp
      gi_wp2
      · refine ⟨((others_of HX.out).trans (KeepsOthers.setCell _ _ _)).from _, rfl, by omega, HIX.out.below.setCell (p := ⟨w.heap.size + 1 + 1, 0, none⟩) (by simp; omega) _, false, (blk_set HIX.out.h4 0 _).trans (by simp), .inr fun hp => ?_⟩
        have hh := prefix_at hp
        rw [HY.out] at hh
        have : y = x.1.1 := Option.some.inj hh
        have h2 := (eqT_iff x.1.1 y).2 this.symm
        rw [← HR.out] at h2
        cases h2
      · exact absurd (‹¬ (subs t).length ≤ pre.length ∧ (!false) = false›).2 (by decide)
      · exact absurd (‹¬ (subs t).length ≤ pre.length ∧ (!false) = false›).2 (by decide)
    | true =>
      have hxy : (subs t)[pre.length]? = some x.1.1 := by rw [HY.out, (eqT_iff _ _).1 HR.out.symm]
      have hc : ¬ ((subs t).length ≤ pre.length ∨ (!true) = true) := by simp; omega
      have hcb : (decide ((subs t).length ≤ pre.length) || !true) = false := by simp; omega
      by_cases hm : (pre.length : Int) + 1 = most
      · have hmq : ((pre.length : Int) + 1 == most) = true := by simpa using hm
        gi_wp2
        refine ⟨(((others_of HX.out).trans (KeepsOthers.setCell _ _ _)).trans (KeepsOthers.setCell _ _ _)).from _, rfl, by omega, (HIX.out.below.setCell (p := ⟨w2.heap.size + 1, 0, none⟩) (by simp; omega) _).setCell (p := ⟨w.heap.size + 1 + 1, 0, none⟩) (by simp; omega) _, true, (blk_set ((Below.heap_setCell _ _ _ _ (by simp; omega)).trans HIX.out.h4) 0 _).trans (by simp), .inl rfl⟩
      · have hmq : ((pre.length : Int) + 1 == most) = false := by simpa using hm
        gi_wp2
        refine ⟨((others_of HX.out).trans (KeepsOthers.setCell _ _ _)).from _, ⟨((HX.out.mono HI.out.below.size).setCell (p := ⟨w2.heap.size + 1, 0, none⟩) (by simp; omega) _), fun k o h1 h2 hk hc => ?_⟩, HIX.out.next hxy hm⟩
        exact (Below.heap_setCell _ _ _ _ (by simp; omega)).trans ((HX.out.block k (Array.getElem?_eq_some_iff.1 hk).1).trans hk)
  · intro D xs W hD hS hI hK
    have hxl : xs.length = (subs t).length := by have := congrArg List.length hS; simpa using this
    obtain ⟨e1, e2, e3, e4⟩ := hI.hB
    have h6 := hI.h6
    rw [hxl] at h6
    have q6 := (blk_cell h6 0).trans rfl
    have q5 := (blk_cell hI.h5 0).trans rfl
    have q4 := (blk_cell hI.h4 0).trans rfl
    have g4 := blk_free hI.h4 0
    have HH4 := Lib.hid hI.h4
    have HBL := Lib.hid hI.below
    have HK := Lib.hid hK
    clear hI hS hK h6 hxl
    dsimp only
    gi_wp2
    have hK' : (W.setCell ⟨w.heap.size + 1 + 1, 0, none⟩ (.bool true)).heap[D]? = some (.deferred (some [])) := (Below.heap_setCell _ _ _ _ (by simp; omega)).trans HK.out
    refine ⟨by simp, .inl ⟨_, _, rfl, run_takeDeferred hK', ?_⟩⟩
    have h4' : ((W.setCell ⟨w.heap.size + 1 + 1, 0, none⟩ (.bool true)).putObj D (.deferred none)).heap[w.heap.size + 1 + 1]? = some (.cells #[.bool true] 4 (0, 0)) := (World.putObj_heap_other (by omega)).trans ((blk_set HH4.out 0 _).trans (by simp))
    have z4 := (blk_cell h4' 0).trans rfl
    refine ⟨.bool true, by simp [results, Tryd.results23, go_sem, z4], rfl, ?_⟩
    exact ((HBL.out.setCell (p := ⟨w.heap.size + 1 + 1, 0, none⟩) (by simp; omega) _)).grown (grown_putObj _ _ _) (by simpa [World.setCell] using HBL.out.size) (fun k e => by cases e; omega)
  · intro D c pre W hD hS hX hK
    obtain ⟨rfl, e1, hbl, b, h4, hb⟩ := hX
    obtain rfl : b = true := by
      rcases hb with h | h
      · exact h
      · exact absurd hS h
    have q4 := (blk_cell h4 0).trans rfl
    have HBL := Lib.hid hbl
    have HH4 := Lib.hid h4
    have HK := Lib.hid hK
    clear hS hb hbl h4 hK
    dsimp only
    gi_wp2
    refine ⟨by simp, .inl ⟨_, _, rfl, run_takeDeferred HK.out, ?_⟩⟩
    have h4' : (W.putObj D (.deferred none)).heap[w.heap.size + 1 + 1]? = some (.cells #[.bool true] 4 (0, 0)) := (World.putObj_heap_other (by omega)).trans HH4.out
    have z4 := (blk_cell h4' 0).trans rfl
    refine ⟨.bool true, by simp [results, Tryd.results23, go_sem, z4], rfl, ?_⟩
    exact HBL.out.grown (grown_putObj _ _ _) HBL.out.size (fun k e => by cases e; omega)
end Go.Proofs.YtfhpnkmhppfeiaaDoor
