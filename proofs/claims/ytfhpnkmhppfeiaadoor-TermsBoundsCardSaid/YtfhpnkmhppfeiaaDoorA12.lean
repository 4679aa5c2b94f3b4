/- slices.AppendSeq and slices.Collect of terms. -/
import Derived.Test.YtfhpnkmhppfeiaaDoorA11
set_option linter.unusedVariables false
set_option linter.unusedSimpArgs false
namespace Go.Proofs.YtfhpnkmhppfeiaaDoor
open Go.RowKit Go.Proofs Go.ChangeMaps
attribute [local go_sem] Oper.semAt_some
/-- The cells of a value of a term's shape. -/
def ec (x : Ent) : List Value := match x.1 with | .agg cs => cs.toList | _ => []
def ecs (xs : List Ent) : List Value := xs.flatMap ec
theorem ec_len (x : Ent) : (ec x).length = 3 := by obtain ⟨v, k, n, A, l, c, rfl⟩ := x; rfl
theorem ecs_len (xs : List Ent) : (ecs xs).length = xs.length * 3 := by
  induction xs with
  | nil => rfl
  | cons x r ih => simp only [ecs, List.flatMap_cons, List.length_append, List.length_cons] at ih ⊢; rw [ec_len, ih]; omega
def apAssign : Code := (Code.region 2 #[{ dst := some 5, op := Op.alloc 25, type := 0, pos := "iter.go:51", after := #[], guard := none }, { dst := none, op := Op.store 25 (Operand.tmp 5) (Operand.tmp 7), type := 0, pos := "iter.go:51", after := #[{ on := 0, ground := Ground.data }, { on := 0, ground := Ground.phase }], guard := none }] false)
def apOps : List Oper := [{ dst := some 8, op := Op.load 22 (Operand.tmp 2), type := 22, pos := "iter.go:52", after := #[], guard := none }, { dst := some 9, op := Op.load 25 (Operand.tmp 5), type := 25, pos := "iter.go:52", after := #[], guard := none }, { dst := some 10, op := Op.call { callee := Callee.builtin Builtin.len, args := #[Operand.tmp 8], argTypes := #[22] }, type := 3, pos := "iter.go:52", after := #[{ on := 0, ground := Ground.data }], guard := none }, { dst := some 11, op := Op.buildSlice 22 1 #[(0, Operand.const (Value.agg #[Value.int IntKind.i64 0, Value.int IntKind.i64 0, Value.slice none 0 0]))], type := 22, pos := "iter.go:52", after := #[], guard := none }, { dst := some 12, op := Op.call { callee := Callee.builtin Builtin.append, args := #[Operand.tmp 8, Operand.tmp 11], argTypes := #[22, 22] }, type := 22, pos := "iter.go:52", after := #[{ on := 0, ground := Ground.data }, { on := 3, ground := Ground.data }, { on := 0, ground := Ground.phase }, { on := 1, ground := Ground.phase }, { on := 2, ground := Ground.phase }, { on := 3, ground := Ground.phase }], guard := none }, { dst := some 13, op := Op.indexAddr 22 (Operand.tmp 12) (Operand.tmp 10), type := 0, pos := "iter.go:52", after := #[{ on := 4, ground := Ground.data }, { on := 2, ground := Ground.data }, { on := 0, ground := Ground.phase }, { on := 1, ground := Ground.phase }, { on := 2, ground := Ground.phase }, { on := 3, ground := Ground.phase }, { on := 4, ground := Ground.phase }, { on := 7, ground := Ground.gcOnly Departure.appendInPlace }], guard := none }, { dst := none, op := Op.store 25 (Operand.tmp 13) (Operand.tmp 9), type := 0, pos := "iter.go:52", after := #[{ on := 5, ground := Ground.data }, { on := 1, ground := Ground.data }, { on := 4, ground := Ground.chain }, { on := 0, ground := Ground.phase }, { on := 1, ground := Ground.phase }, { on := 2, ground := Ground.phase }, { on := 3, ground := Ground.phase }, { on := 4, ground := Ground.phase }, { on := 7, ground := Ground.gcOnly Departure.appendInPlace }], guard := none }, { dst := none, op := Op.store 22 (Operand.tmp 2) (Operand.tmp 12), type := 0, pos := "iter.go:52", after := #[{ on := 4, ground := Ground.data }, { on := 4, ground := Ground.chain }, { on := 6, ground := Ground.textOnly Departure.appendInPlace }, { on := 0, ground := Ground.phase }, { on := 1, ground := Ground.phase }, { on := 2, ground := Ground.phase }, { on := 3, ground := Ground.phase }, { on := 4, ground := Ground.phase }, { on := 5, ground := Ground.textOnly Departure.appendInPlace }, { on := 6, ground := Ground.textOnly Departure.appendInPlace }], guard := none }]
def apBody : Code := (Code.block 1 (Code.region 3 apOps.toArray true))
/-- The record of the loop in AppendSeq. -/
def apRec (fn : FuncId) (sv : Value) (Bs D : Nat) (st : LoopState) (pend : Option Code) : Loop :=
  { state := st, pending := pend, fn, tmps := #[.slice none 0 0, sv, .pointer (some ⟨Bs, 0, none⟩), undef, .slice none 0 0, undef, sv, undef, undef, undef, undef, undef, undef, undef, undef], params := #[7], assign := apAssign, body := apBody, defers := D }
/-- Between two rounds. -/
structure ApAt (w0 : World) (fn : FuncId) (sv : Value) (Bs l D : Nat) (ss : List Ent) (W : World) : Prop where
  box : ∃ v, W.heap[Bs]? = some (.cells #[v] 22 (0, 0)) ∧ W.ownsRow w0.heap.size 25 3 v ss.length (ecs ss) ∧ v.ownBlock ≠ some Bs
  L : W.heap[l]? = some (.loop (apRec fn sv Bs D .ready none))
  K : W.heap[D]? = some (.deferred (some []))
  below : Below w0.heap.size w0 W
theorem own_abides {W W' : World} {row : Option Nat} {base : Nat} {e : TypeId} {size : Nat} {v : Value} {k : Nat} {xs : List Value} (h : W.ownsRow base e size v k xs) (hg : W.grownBy W' row)
    (hrow : ∀ r, row = some r → ∃ o : Obj, W.heap[r]? = some o ∧ o.isWalk = true) : W'.ownsRow base e size v k xs := by
  refine h.kept hg ?_
  rcases h.2 with ⟨rfl, _⟩ | ⟨g, cap, cur, rfl, _, hgb, _⟩
  · exact .inl rfl
  · refine .inr fun e' => ?_
    obtain ⟨o, ho, hw⟩ := hrow g (by simpa [Value.ownBlock] using e'.symm)
    rw [hgb] at ho; cases ho; cases hw
theorem ap_abides (w0 : World) (fn : FuncId) (sv : Value) (Bs l D B : Nat) (hB : w0.heap.size ≤ B) : AbidesFrom B (ApAt w0 fn sv Bs l D) := fun s W W' row h hg hrow => by
  have hrow' : ∀ r, row = some r → ∃ o : Obj, W.heap[r]? = some o ∧ o.isWalk = true := fun r e => (hrow r e).2
  obtain ⟨v, hv, hr, hn⟩ := h.box
  exact ⟨⟨v, (grownBy_keeps hg hrow' hv rfl).trans hv, own_abides hr hg hrow', hn⟩, (grownBy_keeps hg hrow' h.L rfl).trans h.L, (grownBy_keeps hg hrow' h.K rfl).trans h.K,
    h.below.grown hg h.below.size (fun k e => Nat.le_trans hB (hrow k e).1)⟩
theorem grown_putObj (W : World) (l : Nat) (o : Obj) : W.grownBy (W.putObj l o) (some l) :=
  ⟨rfl, rfl, rfl, by simp, fun k _ hk => World.putObj_heap_other (fun e => hk (by rw [e]))⟩
/-- A row of one's own is no block that holds something else. -/
theorem own_ne {W : World} {base : Nat} {e : TypeId} {size : Nat} {v : Value} {k : Nat} {xs : List Value} (h : W.ownsRow base e size v k xs) {j : Nat} {o : Obj} (hj : W.heap[j]? = some o) (hno : ∀ cur, o ≠ .cells cur e (0, 0)) : v.ownBlock ≠ some j := by
  rcases h.2 with ⟨rfl, _⟩ | ⟨g, cap, cur, rfl, _, hgb, _⟩
  · simp [Value.ownBlock]
  · intro e'
    have : g = j := by simpa [Value.ownBlock] using e'
    subst this; rw [hgb] at hj; cases hj; exact hno cur rfl
theorem Grew.walks {S : Nat → Prop} {W W' : World} (h : Grew S W W') (hs : ∀ k o, S k → W.heap[k]? = some o → o.isWalk = false) : KeepsWalks W W' :=
  ⟨h.size, fun k o hk hw => (h.block k (Array.getElem?_eq_some_iff.1 hk).1 fun hS => by rw [hs k o hS hk] at hw; cases hw).trans hk⟩
theorem take_set3 {cur : Array Value} {cs : List Value} {z0 z1 z2 a b c : Value} {n : Nat} (hn : cs.length = n * 3) (h : cur.toList.take ((n + 1) * 3) = cs ++ [z0, z1, z2]) :
    (((cur.setIfInBounds (n * 3) a).setIfInBounds (n * 3 + 1) b).setIfInBounds (n * 3 + 2) c).toList.take ((n + 1) * 3) = cs ++ [a, b, c] := by
  have hl : cs.length + 3 ≤ cur.toList.length := by
    have := congrArg List.length h
    simp at this; simp; omega
  have e : cur.toList = cs ++ ([z0, z1, z2] ++ cur.toList.drop ((n + 1) * 3)) := by
    rw [← List.append_assoc, ← h, List.take_append_drop]
  simp only [Array.toList_setIfInBounds]
  rw [e, ← hn]
  simp only [List.cons_append, List.nil_append, List.set_append_right _ _ (Nat.le_refl _), Nat.sub_self, List.set_cons_zero]
  rw [List.set_append_right _ _ (by omega), show cs.length + 1 - cs.length = 1 by omega, List.set_append_right _ _ (by omega), show cs.length + 2 - cs.length = 2 by omega]
  simp only [List.set_cons_succ, List.set_cons_zero]
  generalize cur.toList.drop ((n + 1) * 3) = X
  rw [show cs ++ a :: b :: c :: X = (cs ++ [a, b, c]) ++ X by simp]
  exact List.take_left' (by simp; omega)
theorem ord1 {w : World} {Bs g : Nat} {x : Value} {cur : Array Value} (a b c v : Value) (n : Nat) (hB : w.heap[Bs]? = some (.cells #[x] 22 (0, 0))) (hg : w.heap[g]? = some (.cells cur 25 (0, 0))) (hne : g ≠ Bs) :
    ((((w.setCell ⟨g, n, none⟩ a).setCell ⟨g, n + 1, none⟩ b).setCell ⟨g, n + 2, none⟩ c).setCell ⟨Bs, 0, none⟩ v).heap[Bs]? = some (.cells #[v] 22 (0, 0)) ∧
    ((((w.setCell ⟨g, n, none⟩ a).setCell ⟨g, n + 1, none⟩ b).setCell ⟨g, n + 2, none⟩ c).setCell ⟨Bs, 0, none⟩ v).heap[g]? = some (.cells (((cur.setIfInBounds n a).setIfInBounds (n + 1) b).setIfInBounds (n + 2) c) 25 (0, 0)) ∧
    Grew (fun j => j = Bs ∨ j = g) w ((((w.setCell ⟨g, n, none⟩ a).setCell ⟨g, n + 1, none⟩ b).setCell ⟨g, n + 2, none⟩ c).setCell ⟨Bs, 0, none⟩ v) := by
  have o : ∀ (w : World) (j : Nat) (u : Value), (w.setCell ⟨g, j, none⟩ u).heap[Bs]? = w.heap[Bs]? := fun w j u => Below.heap_setCell _ _ _ _ (Ne.symm hne)
  refine ⟨(blk_set ((o _ _ _).trans ((o _ _ _).trans ((o _ _ _).trans hB))) 0 v).trans (by simp), (Below.heap_setCell _ _ _ _ hne).trans (blk_set (blk_set (blk_set hg _ _) _ _) _ _), ?_⟩
  exact (((Grew.refl _ w).setCell (.inr rfl) a).setCell (.inr rfl) b).setCell (.inr rfl) c |>.setCell (.inl rfl) v
theorem ord2 {w : World} {Bs g : Nat} {x : Value} {cur : Array Value} (a b c v : Value) (n : Nat) (hB : w.heap[Bs]? = some (.cells #[x] 22 (0, 0))) (hg : w.heap[g]? = some (.cells cur 25 (0, 0))) (hne : g ≠ Bs) :
    ((((w.setCell ⟨Bs, 0, none⟩ v).setCell ⟨g, n, none⟩ a).setCell ⟨g, n + 1, none⟩ b).setCell ⟨g, n + 2, none⟩ c).heap[Bs]? = some (.cells #[v] 22 (0, 0)) ∧
    ((((w.setCell ⟨Bs, 0, none⟩ v).setCell ⟨g, n, none⟩ a).setCell ⟨g, n + 1, none⟩ b).setCell ⟨g, n + 2, none⟩ c).heap[g]? = some (.cells (((cur.setIfInBounds n a).setIfInBounds (n + 1) b).setIfInBounds (n + 2) c) 25 (0, 0)) ∧
    Grew (fun j => j = Bs ∨ j = g) w ((((w.setCell ⟨Bs, 0, none⟩ v).setCell ⟨g, n, none⟩ a).setCell ⟨g, n + 1, none⟩ b).setCell ⟨g, n + 2, none⟩ c) := by
  have o : ∀ (w : World) (j : Nat) (u : Value), (w.setCell ⟨g, j, none⟩ u).heap[Bs]? = w.heap[Bs]? := fun w j u => Below.heap_setCell _ _ _ _ (Ne.symm hne)
  refine ⟨(o _ _ _).trans ((o _ _ _).trans ((o _ _ _).trans ((blk_set hB 0 v).trans (by simp)))), blk_set (blk_set (blk_set ((Below.heap_setCell _ _ _ _ hne).trans hg) _ _) _ _) _ _, ?_⟩
  exact (((Grew.refl _ w).setCell (.inl rfl) v).setCell (.inr rfl) a).setCell (.inr rfl) b |>.setCell (.inr rfl) c
set_option maxRecDepth 100000 in
set_option maxHeartbeats 2000000 in
theorem apYield (m : Nat) (w0 : World) (fn : FuncId) (sv : Value) (Bs l D : Nat) (hBl : Bs ≠ l) (hDl : D ≠ l) (hDB : D ≠ Bs) (h0B : w0.heap.size ≤ Bs) (h0l : w0.heap.size ≤ l) (h0D : w0.heap.size ≤ D)
    (N : Nat) (hN : N ≤ 1000000000) (ss : List Ent) (x : Ent) (W : World) (h : ApAt w0 fn sv Bs l D ss W) (hlen : ss.length < N) :
    YieldAt Fence.wide m Tryd.prog l #[x.1] W fun e W' => e = .returned (.bool true) ∧ ApAt w0 fn sv Bs l D (ss ++ [x]) W' ∧ KeepsWalks W W' := by
  obtain ⟨i0, hi, hz0, hz1, hz2⟩ := info_parts info25
  obtain ⟨v, hv, hrow, hvB⟩ := h.box
  refine ⟨fn, #[.slice none 0 0, sv, .pointer (some ⟨Bs, 0, none⟩), undef, .slice none 0 0, undef, sv, x.1, undef, undef, undef, undef, undef, undef, undef], apAssign, apBody, by simpa [apRec] using run_yield (P := Tryd.prog) (args := #[x.1]) h.L rfl, roundIn_of_wpIn trivial ?_⟩
  obtain ⟨x, k, n, A, ll, cc, rfl⟩ := x
  have hl : l < W.heap.size := (Array.getElem?_eq_some_iff.1 h.L).1
  have hBlt : Bs < W.heap.size := (Array.getElem?_eq_some_iff.1 hv).1
  have hDlt : D < W.heap.size := (Array.getElem?_eq_some_iff.1 h.K).1
  unfold apAssign
  gi_wp2
  obtain ⟨W1, hW1⟩ : ∃ W1, W1 = W.alloc (.cells #[.int .i64 k, .int .i64 n, .slice A ll cc] 25) := ⟨_, rfl⟩
  have hb1 : Below W.heap.size W W1 := by rw [hW1]; exact bself _ _
  have hs1 : W1.heap.size = W.heap.size + 1 := by rw [hW1]; simp
  have hx1 : W1.heap[W.heap.size]? = some (.cells #[.int .i64 k, .int .i64 n, .slice A ll cc] 25 (0, 0)) := by rw [hW1]; exact heap_alloc_new _ _
  rw [← hW1]
  clear hW1
  have hL1 : W1.heap[l]? = some (.loop (apRec fn sv Bs D .ready none)) := (hb1.block l hl).trans h.L
  have hbr := run_beginRound (P := Tryd.prog) hL1 rfl
  obtain ⟨W2, hW2⟩ : ∃ W2, W1.putObj l (.loop { apRec fn sv Bs D .ready none with state := .busy }) = W2 := ⟨_, rfl⟩
  rw [hW2] at hbr
  have hg2 : W1.grownBy W2 (some l) := by rw [← hW2]; exact grown_putObj _ _ _
  have hL2 : W2.heap[l]? = some (.loop { apRec fn sv Bs D .ready none with state := .busy }) := by rw [← hW2]; exact World.putObj_heap_same (by omega)
  clear hW2
  have hs2 : W1.heap.size ≤ W2.heap.size := hg2.size
  have hv2 : W2.heap[Bs]? = some (.cells #[v] 22 (0, 0)) := (hg2.block Bs (by omega) (by simp; omega)).trans ((hb1.block Bs hBlt).trans hv)
  have hK2 : W2.heap[D]? = some (.deferred (some [])) := (hg2.block D (by omega) (by simp; omega)).trans ((hb1.block D hDlt).trans h.K)
  have hx2 : W2.heap[W.heap.size]? = some (.cells #[.int .i64 k, .int .i64 n, .slice A ll cc] 25 (0, 0)) := (hg2.block _ (by omega) (by simp; omega)).trans hx1
  have hvl : v.ownBlock ≠ some l := own_ne hrow h.L (fun cur e => by cases e)
  have hvD : v.ownBlock ≠ some D := own_ne hrow h.K (fun cur e => by cases e)
  have hvb := hrow.lt
  have hrow2 : W2.ownsRow w0.heap.size 25 3 v ss.length (ecs ss) := (own_bel hrow hb1).kept hg2 (.inr fun e => hvl e)
  have hk2 : KeepsWalks W W2 := (Grew.of_below hb1 : Grew None_ W W1).walks (fun _ _ h => h.elim) |>.trans ((Grew.of_grownBy hg2 (S := fun j => j = l) fun j e => by cases e; rfl).walks fun j o e ho => by subst e; rw [hL1] at ho; cases ho; rfl)
  have hb2 : Below w0.heap.size w0 W2 := (h.below.trans (hb1.mono h.below.size)).grown hg2 (by have := h.below.size; omega) (fun j e => by cases e; exact h0l)
  refine ⟨W2, hbr, ?_⟩
  have fin : ∀ (a : Act) (v' : Value) (w4 : World), w4.heap[Bs]? = some (.cells #[v'] 22 (0, 0)) → w4.ownsRow w0.heap.size 25 3 v' (ss.length + 1) (ecs ss ++ [.int .i64 k, .int .i64 n, .slice A ll cc]) → v'.ownBlock ≠ some Bs → Grew (fun j => j = Bs ∨ v.ownBlock = some j) W2 w4 →
      roundPost Tryd.prog l (fun e W' => e = Ending.returned (Value.bool true) ∧ ApAt w0 fn sv Bs l D (ss ++ [⟨Value.agg #[Value.int IntKind.i64 k, Value.int IntKind.i64 n, Value.slice A ll cc], k, n, A, ll, cc, rfl⟩]) W' ∧ KeepsWalks W W') .normal a w4 := by
    intro a v' w4 hv4 hrow4 hvB4 hg4
    have hL4 := hg4.heap hL2 fun e => by rcases e with e | e; exact hBl e.symm; exact hvl e
    have hK4 := hg4.heap hK2 fun e => by rcases e with e | e; exact hDB e; exact hvD e
    have hl4 : l < w4.heap.size := (Array.getElem?_eq_some_iff.1 hL4).1
    have hb4 : Below w0.heap.size w0 w4 := hb2.trans (hg4.below (by have := hb2.size; omega) fun j e => by rcases e with rfl | e; exact h0B; exact (hvb j e).1)
    have hk4 : KeepsWalks W w4 := hk2.trans (hg4.walks fun j o e ho => by
      rcases e with rfl | e
      · rw [hv2] at ho; cases ho; rfl
      · rcases hrow2.2 with ⟨rfl, _⟩ | ⟨g, cap, cur, rfl, _, hgb, _⟩
        · simp [Value.ownBlock] at e
        · have : g = j := by simpa [Value.ownBlock] using e
          subst this; rw [hgb] at ho; cases ho; rfl)
    refine ⟨_, _, run_endRound none hL4, rfl, ⟨⟨v', (World.putObj_heap_other hBl).trans hv4, ?_, hvB4⟩, World.putObj_heap_same hl4, (World.putObj_heap_other hDl).trans hK4, hb4.grown (grown_putObj _ _ _) hb4.size (fun j e => by cases e; exact h0l)⟩, hk4.trans ?_⟩
    · have := hrow4.kept (grown_putObj w4 l (.loop { { apRec fn sv Bs D .ready none with state := .busy } with state := if (none : Option Code).isNone then .ready else .done, pending := none })) (.inr fun e => own_ne hrow4 hL4 (fun cur e => by cases e) e)
      simpa [ecs, ec] using this
    · exact KeepsWalks.putObj _ hL4 rfl
  unfold apBody
  gi_wp2
  obtain ⟨Av, cv, rfl, hcv1, hcv2⟩ := own_form hrow
  have HV2 := Lib.hid hv2
  have HX2 := Lib.hid hx2
  have HROW2 := Lib.hid hrow2
  have HFIN := Lib.hid fin
  have HB2 := Lib.hid hb2
  have HVB := Lib.hid hvb
  have HVBs := Lib.hid hvB
  have HS := Lib.hid (show W.heap.size + 1 ≤ W2.heap.size by omega)
  have HLEN := Lib.hid (show ss.length + 1 ≤ 1000000000 by omega)
  have HBLT := Lib.hid hBlt
  clear hv2 hx2 hrow2 fin hb2 hvb hvB hk2 hL2 hK2 hg2 hbr hb1 hs1 hx1 hL1 hs2 hvl hvD h hv hrow hBl hDl hDB hlen hl hBlt hDlt h0l h0D hN
  refine region_round (by kernel_rfl) (by kernel_rfl) ?_
  refine any_region_post 4 (R := fun _ => Grew None_) (B := fun _ _ => True) (C := Grew None_ W2)
    [fun u _ => u = .slice Av ss.length cv, fun u _ => u = .agg #[.int .i64 k, .int .i64 n, .slice A ll cc], fun u _ => u = .int .i64 ss.length,
      fun u w' => ∃ g, u = .slice (some ⟨g, 0, none⟩) 1 1 ∧ W2.heap.size ≤ g ∧ w'.heap[g]? = some (.cells #[.int .i64 0, .int .i64 0, .slice none 0 0] 25 (0, 0))]
    [[], [], [0], []] (by kernel_rfl) (by kernel_rfl) (fun _ _ _ _ h h' => h.trans h') ?_ (fun _ _ _ _ _ _ _ _ _ _ _ => trivial) (Grew.drew _ _) (fun _ _ => trivial) ?_ ?_
  · intro i j u w1 w2 _ _ _ hg
    refine lasts ?_ j u
    simp only [List.forall_mem_cons, List.not_mem_nil, false_implies, implies_true, and_true]
    refine ⟨fun _ h => h, fun _ h => h, fun _ h => h, fun _ h => ?_⟩
    obtain ⟨g, e, h1, h2⟩ := h
    exact ⟨g, e, h1, hg.heap h2 fun h => h.elim⟩
  · intro vals
    simp only [apOps, List.take_succ_cons, List.take_zero, Steps_, List.headD_cons, List.tail_cons, List.forall_mem_cons, List.not_mem_nil, false_implies, implies_true, and_true, List.getD_cons_zero, List.getD_cons_succ, Act.put, List.setIfInBounds_toArray, List.set_cons_zero, List.set_cons_succ, Nat.zero_add, Nat.reduceAdd]
    refine ⟨?_, ?_, ?_, ?_⟩
    · rintro w1 hC _ _
      have q := (blk_cell (hC.heap HV2.out fun h => h.elim) 0).trans rfl
      go_wp2_with fail
      exact ⟨_, rfl, Grew.refl _ _, rfl⟩
    · rintro w1 hC _ _
      have q0 := (blk_cell (hC.heap HX2.out fun h => h.elim) 0).trans rfl
      have q1 := (blk_cell (hC.heap HX2.out fun h => h.elim) 1).trans rfl
      have q2 := (blk_cell (hC.heap HX2.out fun h => h.elim) 2).trans rfl
      go_wp2_with fail
      exact ⟨_, rfl, Grew.refl _ _, rfl⟩
    · rintro w1 hC _ h0
      rw [h0]
      go_wp2_with fail
      exact ⟨_, rfl, Grew.refl _ _, rfl⟩
    · rintro w1 hC _ _
      have HCS := Lib.hid hC.size
      go_wp2_with fail
      exact ⟨_, rfl, Grew.alloc _ _ _, w1.heap.size, rfl, HCS.out, heap_alloc_new _ _⟩
  · intro vals w1 hC hv
    have x0 : vals 0 = .slice Av ss.length cv := hv 0 (by omega)
    have x1 : vals 1 = .agg #[.int .i64 k, .int .i64 n, .slice A ll cc] := hv 1 (by omega)
    have x2 : vals 2 = .int .i64 ss.length := hv 2 (by omega)
    obtain ⟨g, x3, hg3, hh3⟩ := hv 3 (by omega)
    simp only [apOps, List.take_succ_cons, List.take_zero, lexA, Act.put, List.setIfInBounds_toArray, List.set_cons_zero, List.set_cons_succ, Nat.zero_add, Nat.reduceAdd, x0, x1, x2, x3]
    clear x0 x1 x2 x3 hv
    have HROW1 := Lib.hid (own_bel HROW2.out hC.all)
    have HV1 := Lib.hid (hC.heap HV2.out fun h => h.elim)
    have HC := Lib.hid hC
    have HG3 := Lib.hid hg3
    clear hC hg3
    refine wpAny_one (i := 4) (fuel := 3) (by kernel_rfl) (wpOp_list (by rfl) ?_)
    refine wpList_append_own_at _ rfl _ _ 22 rfl w0.heap.size 25 i0 _ 3 40 Tryd.underlying22 hi hz0 hz1 hz2 rfl (by decide) (.slice Av ss.length cv) ss.length _ rfl HROW1.out ⟨g, 0, none⟩ 1 1 [.int .i64 0, .int .i64 0, .slice none 0 0] rfl rfl (news3 hh3) ?_ ?_ ?_ ?_ ?_
    rotate_right
    · intro v1 w2 hown2 hg2 _ hloc
      rcases hown2.2 with ⟨_, hz⟩ | ⟨g', cap, cur, rfl, hbg, hh, hcp1, hcp2, hcur, htake⟩
      · omega
      have hlt1 : w1.heap.size ≤ w2.heap.size := hg2.size
      have hC1 := HC.out.size
      have hgB : g' ≠ Bs := by
        intro e
        rcases hloc with e' | e'
        · exact HVBs.out (by rw [← e', ← e]; rfl)
        · simp [Value.ownBlock] at e'; have := HBLT.out; have := HS.out; omega
      have hBg : Bs ≠ g' := fun e => hgB e.symm
      have hB2 : w2.heap[Bs]? = some (.cells #[.slice Av ss.length cv] 22 (0, 0)) := (hg2.block Bs (by have := HBLT.out; have := HS.out; omega) (fun e => HVBs.out e.symm)).trans HV1.out
      have qb := (blk_cell hB2 0).trans rfl
      have fb := blk_free hB2 0
      have hel := ecs_len ss
      have qc : ∀ j u, (ecs ss ++ [.int .i64 0, .int .i64 0, .slice none 0 0])[j]? = some u → w2.cell? ⟨g', j, none⟩ = some u := fun j u hj => by
        have := hown2.cells (g := g') rfl j u hj
        rwa [addr_add] at this
      have q0 : w2.cell? ⟨g', ss.length * 3, none⟩ = some (.int .i64 0) := qc _ _ (by rw [← hel, List.getElem?_append_right (Nat.le_refl _), Nat.sub_self]; rfl)
      have q1 : w2.cell? ⟨g', ss.length * 3 + 1, none⟩ = some (.int .i64 0) := qc _ _ (by rw [← hel, List.getElem?_append_right (by omega), show (ecs ss).length + 1 - (ecs ss).length = 1 by omega]; rfl)
      have q2 : w2.cell? ⟨g', ss.length * 3 + 2, none⟩ = some (.slice none 0 0) := qc _ _ (by rw [← hel, List.getElem?_append_right (by omega), show (ecs ss).length + 2 - (ecs ss).length = 2 by omega]; rfl)
      have f0 := blk_free hh (ss.length * 3)
      have f1 := blk_free hh (ss.length * 3 + 1)
      have f2 := blk_free hh (ss.length * 3 + 2)
      have hset : (((cur.setIfInBounds (ss.length * 3) (.int .i64 k)).setIfInBounds (ss.length * 3 + 1) (.int .i64 n)).setIfInBounds (ss.length * 3 + 2) (.slice A ll cc)).toList.take ((ss.length + 1) * 3) = ecs ss ++ [.int .i64 k, .int .i64 n, .slice A ll cc] := take_set3 hel htake
      have hg0 : Grew (fun j => j = Bs ∨ (Value.slice Av ss.length cv).ownBlock = some j) W2 w2 := (HC.out.any).trans (Grew.of_grownBy hg2 fun j e => .inr e)
      have hgr : ∀ w4, Grew (fun j => j = Bs ∨ j = g') w2 w4 → Grew (fun j => j = Bs ∨ (Value.slice Av ss.length cv).ownBlock = some j) W2 w4 := fun w4 h3 =>
        ⟨h3.os.trans hg0.os, h3.tape.trans hg0.tape, h3.output.trans hg0.output, Nat.le_trans hg0.size h3.size, fun j hj hn => (h3.block j (Nat.lt_of_lt_of_le hj hg0.size) (fun e => by
          rcases e with e | rfl
          · exact hn (.inl e)
          · rcases hloc with e' | e'
            · exact hn (.inr (by rw [← e']; rfl))
            · simp [Value.ownBlock] at e'; omega)).trans (hg0.block j hj hn)⟩
      have HFIN2 := Lib.hid (fun (a : Act) (w4 : World) (h1 : w4.heap[Bs]? = some (.cells #[.slice (some ⟨g', 0, none⟩) (ss.length + 1) cap] 22 (0, 0)))
          (h2 : w4.heap[g']? = some (.cells (((cur.setIfInBounds (ss.length * 3) (.int .i64 k)).setIfInBounds (ss.length * 3 + 1) (.int .i64 n)).setIfInBounds (ss.length * 3 + 2) (.slice A ll cc)) 25 (0, 0)))
          (h3 : Grew (fun j => j = Bs ∨ j = g') w2 w4) => HFIN.out a _ w4 h1 ⟨by simp; omega, .inr ⟨g', cap, _, rfl, hbg, h2, hcp1, hcp2, by simp [hcur], hset⟩⟩ (by simp [Value.ownBlock]; exact hgB) (hgr w4 h3))
      have HH := Lib.hid hh
      have HB2' := Lib.hid hB2
      clear hset hg0 hgr hh hB2 qc hown2 hg2 hloc htake hcur hC1
      have hlb : ss.length < ss.length + 1 := by omega
      refine wpAny_two (i := 5) (j := 7) (fuel := 2) (by kernel_rfl) (wpOp_list (by rfl) ?_) (wpOp_list (by rfl) ?_)
      · go_wp2_with fail
        refine wpAny_two (i := 6) (j := 7) (fuel := 1) (by kernel_rfl) (wpOp_list (by rfl) ?_) (wpOp_list (by rfl) ?_)
        · go_wp2_with fail
          refine wpAny_one (i := 7) (fuel := 0) (by kernel_rfl) (wpOp_list (by rfl) ?_)
          go_wp2_with fail
          obtain ⟨h1, h2, h3⟩ := ord1 (.int .i64 k) (.int .i64 n) (.slice A ll cc) (.slice (some ⟨g', 0, none⟩) (ss.length + 1) cap) (ss.length * 3) HB2'.out HH.out hgB
          refine wpAny_end (P := Tryd.prog) (by kernel_rfl) ?_
          exact HFIN2.out { tmps := #[], defers := [] } _ h1 h2 h3
        · go_wp2_with fail
          refine wpAny_one (i := 6) (fuel := 0) (by kernel_rfl) (wpOp_list (by rfl) ?_)
          go_wp2_with fail
          obtain ⟨h1, h2, h3⟩ := ord2 (.int .i64 k) (.int .i64 n) (.slice A ll cc) (.slice (some ⟨g', 0, none⟩) (ss.length + 1) cap) (ss.length * 3) HB2'.out HH.out hgB
          refine wpAny_end (P := Tryd.prog) (by kernel_rfl) ?_
          exact HFIN2.out { tmps := #[], defers := [] } _ h1 h2 h3
      · go_wp2_with fail
        refine wpAny_one (i := 5) (fuel := 1) (by kernel_rfl) (wpOp_list (by rfl) ?_)
        go_wp2_with fail
        refine wpAny_one (i := 6) (fuel := 0) (by kernel_rfl) (wpOp_list (by rfl) ?_)
        go_wp2_with fail
        obtain ⟨h1, h2, h3⟩ := ord2 (.int .i64 k) (.int .i64 n) (.slice A ll cc) (.slice (some ⟨g', 0, none⟩) (ss.length + 1) cap) (ss.length * 3) HB2'.out HH.out hgB
        refine wpAny_end (P := Tryd.prog) (by kernel_rfl) ?_
        exact HFIN2.out { tmps := #[], defers := [] } _ h1 h2 h3
    · intro u hu; simp at hu; rcases hu with rfl | rfl | rfl <;> rfl
    · unfold maxLen; have := HLEN.out; omega
    · have := HLEN.out; omega
    · have := HB2.out.size; have := HC.out.size; omega

set_option maxRecDepth 100000 in
set_option maxHeartbeats 2000000 in
/-- slices.AppendSeq of nothing and whatever iterator. -/
theorem appendSeq_in (n : Nat) (hn : 2 ≤ n) (g : Nat) (lb : Array Value) (eg : ∀ args w, (callFunc g args).run Tryd.prog w = .ok (.enter g args) w)
    (S : List Ent → Prop) (N : Nat) (hN : N ≤ 1000000000) (w : World) (hseq : SeqGives Fence.wide (n - 1) Tryd.prog g lb (fun x : Ent => x.1) S N w) :
    CallsIn Fence.wide n Tryd.prog 76 #[.slice none 0 0, .func (.func g) #[] lb] w fun e w' => ∃ (v : Value) (ss : List Ent), e = .returned v ∧ S ss ∧ w'.ownsRow w.heap.size 25 3 v ss.length (ecs ss) ∧ Below w.heap.size w w' := by
  have h1 : 1 ≤ n := by omega
  refine callsIn_of_wp_marks Tryd.func76 rfl trivial ?_ rfl
  simp only [Tryd.ntmps76, List.size_toArray, List.length_cons, List.length_nil, Nat.reduceAdd, Nat.reduceSub, Array.replicate_succ, Array.replicate_zero, List.push_toArray, List.append_toArray, List.nil_append, List.cons_append]
  gi_wp2
  refine wpIn_rangeFunc ?_
  intro fn hfn
  obtain ⟨W0, hW0⟩ : ∃ W0, w.alloc (.cells #[.slice none 0 0] 22) = W0 := ⟨_, rfl⟩
  have hs0 : W0.heap.size = w.heap.size + 1 := by rw [← hW0]; simp
  have hv0 : W0.heap[w.heap.size]? = some (.cells #[.slice none 0 0] 22 (0, 0)) := by rw [← hW0]; exact heap_alloc_new w _
  have hb0 : Below w.heap.size w W0 := by rw [← hW0]; exact bself _ _
  rw [hW0]
  obtain ⟨W1, hW1⟩ : ∃ W1, (W0.alloc (.deferred (some []))).alloc (.loop (apRec fn (.func (.func g) #[] lb) w.heap.size W0.heap.size .ready none)) = W1 := ⟨_, rfl⟩
  have hold : ∀ k, k < W0.heap.size → W1.heap[k]? = W0.heap[k]? := fun k hk => by
    rw [← hW1]; exact (Below.heap_alloc _ _ k (by simp; omega)).trans (Below.heap_alloc _ _ k hk)
  have hb1 : Below w.heap.size w W1 := by rw [← hW1]; exact (hb0.alloc hb0.size _).alloc (by have := hb0.size; simp; omega) _
  have hs1 : W1.heap.size = W0.heap.size + 2 := by rw [← hW1]; simp
  have hM : ApAt w fn (.func (.func g) #[] lb) w.heap.size (W0.heap.size + 1) W0.heap.size [] W1 :=
    ⟨⟨_, (hold w.heap.size (by omega)).trans hv0, ⟨rfl, .inl ⟨rfl, rfl⟩⟩, by simp [Value.ownBlock]⟩,
     by rw [← hW1]; have := heap_alloc_new (W0.alloc (.deferred (some []))) (.loop (apRec fn (.func (.func g) #[] lb) w.heap.size W0.heap.size .ready none)); rwa [World.size_alloc] at this,
     by rw [← hW1]; exact (Below.heap_alloc _ _ _ (by simp)).trans (heap_alloc_new W0 _), hb1⟩
  refine ⟨W0.heap.size + 1, [{ target := .collected W0.heap.size, args := #[] }], W1, { target := .fn (.func g) lb, args := #[.func (.yield (W0.heap.size + 1)) #[] #[]] }, W1, g,
    #[.func (.yield (W0.heap.size + 1)) #[] #[]] ++ lb, W1, ?_, ?_, ?_, ?_, fun _ => h1, ?_⟩
  · rw [← hW1]; exact run_enterLoop_outer _ _ _ _ _
  · simp [resolve, go_sem]
  · intro f' hf'; trivial
  · simp [invoke, go_sem, eg]
  · refine (hseq (W0.heap.size + 1) (ApAt w fn (.func (.func g) #[] lb) w.heap.size (W0.heap.size + 1) W0.heap.size) W1 hb1 (ap_abides _ _ _ _ _ _ _ hb1.size)
      (fun pre x W hJ hl => apYield (n - 1 - 1) w fn _ w.heap.size (W0.heap.size + 1) W0.heap.size (by omega) (by omega) (by omega) (Nat.le_refl _) (by omega) (by omega) N hN pre x W hJ hl) hM).mono ?_
    rintro e W2 ⟨⟨v0, rfl⟩, ss, hS, h2⟩
    obtain ⟨v, hv, hrow, hnil⟩ := h2.box
    have hend := run_endLoop (P := Tryd.prog) h2.L (by simp [apRec])
    obtain ⟨W3, hW3⟩ : ∃ W3, W2.putObj (W0.heap.size + 1) (.loop { apRec fn (.func (.func g) #[] lb) w.heap.size W0.heap.size .ready none with state := .exhausted }) = W3 := ⟨_, rfl⟩
    rw [hW3] at hend
    have hg3 : W2.grownBy W3 (some (W0.heap.size + 1)) := by rw [← hW3]; exact grown_putObj _ _ _
    have hv3 : W3.heap[w.heap.size]? = some (.cells #[v] 22 (0, 0)) := by rw [← hW3]; exact (World.putObj_heap_other (by omega)).trans hv
    have hK3 : W3.heap[W0.heap.size]? = some (.deferred (some [])) := by rw [← hW3]; exact (World.putObj_heap_other (by omega)).trans h2.K
    have hrow3 := hrow.kept hg3 (.inr fun e => own_ne hrow h2.L (fun cur e => by cases e) e)
    have hb3 : Below w.heap.size w W3 := h2.below.grown hg3 h2.below.size (fun k e => by cases e; omega)
    have q := (blk_cell hv3 0).trans rfl
    clear hW3
    refine ⟨none, W3, hend, ?_⟩
    obtain ⟨Av, cv, rfl, _, _⟩ := own_form hrow
    gi_wp2
    rw [← hs0]
    refine ⟨by simp, .inl ⟨_, _, rfl, run_takeDeferred hK3, ?_⟩⟩
    exact ⟨_, results_tmp rfl _ _ _, _, ss, rfl, hS, hrow3.kept (grown_putObj _ _ _) (.inr fun e => own_ne hrow3 hK3 (fun cur e => by cases e) e), hb3.grown (grown_putObj _ _ _) hb3.size (fun k e => by cases e; omega)⟩
/-- slices.Collect of whatever iterator. -/
theorem collect_in (n : Nat) (hn : 3 ≤ n) (g : Nat) (lb : Array Value) (eg : ∀ args w, (callFunc g args).run Tryd.prog w = .ok (.enter g args) w)
    (S : List Ent → Prop) (N : Nat) (hN : N ≤ 1000000000) (w : World) (hseq : SeqGives Fence.wide (n - 1 - 1) Tryd.prog g lb (fun x : Ent => x.1) S N w) :
    CallsIn Fence.wide n Tryd.prog 57 #[.func (.func g) #[] lb] w fun e w' => ∃ (v : Value) (ss : List Ent), e = .returned v ∧ S ss ∧ w'.ownsRow w.heap.size 25 3 v ss.length (ecs ss) ∧ Below w.heap.size w w' := by
  have h1 : 1 ≤ n := by omega
  refine callsIn_of_wp Tryd.func57 rfl trivial ?_ rfl
  simp only [Tryd.ntmps57, List.size_toArray, List.length_cons, List.length_nil, Nat.reduceAdd, Nat.reduceSub, Array.replicate_succ, Array.replicate_zero, List.push_toArray, List.append_toArray, List.nil_append, List.cons_append]
  gi_wp2_with (refine ⟨trivial, ?_⟩; gi_at_call 76; refine (appendSeq_in (n - 1) (by omega) g lb eg S N hN _ hseq).mono ?_; rintro e w' ⟨v, ss, rfl, hS, hrow, hb⟩)
  go_ret
  exact ⟨v, ss, rfl, hS, hrow, hb⟩
end Go.Proofs.YtfhpnkmhppfeiaaDoor
