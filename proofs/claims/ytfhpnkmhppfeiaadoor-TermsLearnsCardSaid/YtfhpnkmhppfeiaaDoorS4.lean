/- The reference: Learn. -/
import Derived.Test.YtfhpnkmhppfeiaaDoorS3
import Derived.Test.YtfhpnkmhppfeiaaDoorR7
import Derived.Test.YtfhpnkmhppfeiaaDoorG3
import Derived.Deep.CutBlock
set_option linter.unusedVariables false
set_option linter.unusedSimpArgs false
namespace Go.Proofs.YtfhpnkmhppfeiaaDoor
open Go.RowKit Go.Proofs

theorem Part.snoc {L ts : List Tm} (h : Part L ts) {a : Tm} (hg : Go.Proofs.YtfhpnkmhppfeiaaDoor.good a) (hk : Know L a) (hn : a ∉ ts) : Part L (ts ++ [a]) := by
  have := h.put hg hk
  unfold kput at this
  rwa [if_neg fun hh => hn ((hasT_iff (fun t ht => (h.good t ht).1) hg.1).1 hh)] at this
/-- After some of what was known. -/
structure Q1 (L : List Tm) (j : Nat) (ts : List Tm) : Prop where
  part : Part L ts
  got : ∀ i t, i < j → L[i]? = some t → ord t ∈ ts
theorem Q1.next {L ts ts' : List Tm} {j : Nat} {a : Tm} (h : Q1 L j ts) (ha : L[j]? = some a) (hp : Part L ts') (hs : ∀ t ∈ ts, t ∈ ts') (hn : ord a ∈ ts') : Q1 L (j + 1) ts' :=
  ⟨hp, fun i t hi ht => by
    rcases Nat.lt_succ_iff_lt_or_eq.1 hi with h1 | rfl
    · exact hs _ (h.got i t h1 ht)
    · rw [ha] at ht; cases ht; exact hn⟩
structure Q2 (L ts : List Tm) (c : Bool) : Prop where
  part : Part L ts
  base : ∀ t ∈ L, ord t ∈ ts
  closed : c = false → ∀ t ∈ ts, ∀ a ∈ apartT ts t, a ∈ ts
structure Q3 (L ts0 ts : List Tm) (c : Bool) (i : Nat) : Prop where
  part : Part L ts
  base : ∀ t ∈ L, ord t ∈ ts
  le : i ≤ ts.length
  no : c = false → ts = ts0 ∧ ∀ j t, j < i → ts[j]? = some t → ∀ a ∈ apartT ts t, a ∈ ts
  yes : c = true → ts0.length < ts.length
structure Q4 (L tsi ts ms : List Tm) (c0 c : Bool) (q : Nat) : Prop where
  part : Part L ts
  old : ∀ t ∈ tsi, t ∈ ts
  got : ∀ j t, j < q → ms[j]? = some t → t ∈ ts
  know : ∀ t ∈ ms, Know L t ∧ good t
  len : tsi.length ≤ ts.length
  st : (c = c0 ∧ ts = tsi) ∨ (c = true ∧ tsi.length < ts.length)
theorem Q3.start {L ts : List Tm} {c : Bool} (h : Q2 L ts c) : Q3 L ts ts false 0 := ⟨h.part, h.base, Nat.zero_le _, fun _ => ⟨rfl, fun j t h => absurd h (Nat.not_lt_zero _)⟩, fun h => by cases h⟩
theorem Q3.stop {L ts0 ts : List Tm} {c : Bool} (h : Q3 L ts0 ts c ts.length) : Q2 L ts c := ⟨h.part, h.base, fun hc t ht a ha => by
  obtain ⟨j, hj⟩ := List.getElem?_of_mem ht
  exact (h.no hc).2 j t (List.getElem?_eq_some_iff.1 hj).1 hj a ha⟩
theorem Q4.start {L ts0 ts : List Tm} {c : Bool} {i : Nat} (h : Q3 L ts0 ts c i) {t : Tm} (ht : t ∈ ts) : Q4 L ts ts (apartT ts t) c c 0 :=
  ⟨h.part, fun _ h => h, fun j t h => absurd h (Nat.not_lt_zero _), fun a ha => Know.apart h.part.good h.part.know ht ha, Nat.le_refl _, .inl ⟨rfl, rfl⟩⟩
theorem Q4.has {L tsi ts ms : List Tm} {c0 c : Bool} {q : Nat} (h : Q4 L tsi ts ms c0 c q) {a : Tm} (ha : ms[q]? = some a) (hi : a ∈ ts) : Q4 L tsi ts ms c0 c (q + 1) :=
  ⟨h.part, h.old, fun j t hj ht => by
    rcases Nat.lt_succ_iff_lt_or_eq.1 hj with h1 | rfl
    · exact h.got j t h1 ht
    · rw [ha] at ht; cases ht; exact hi, h.know, h.len, h.st⟩
theorem Q4.add {L tsi ts ms : List Tm} {c0 c : Bool} {q : Nat} (h : Q4 L tsi ts ms c0 c q) {a : Tm} (ha : ms[q]? = some a) (hi : a ∉ ts) : Q4 L tsi (ts ++ [a]) ms c0 true (q + 1) := by
  obtain ⟨hk, hg⟩ := h.know a (List.mem_of_getElem? ha)
  refine ⟨h.part.snoc hg hk hi, fun t ht => List.mem_append_left _ (h.old t ht), fun j t hj ht => ?_, h.know, by have := h.len; simp; omega, .inr ⟨rfl, by have := h.len; simp; omega⟩⟩
  rcases Nat.lt_succ_iff_lt_or_eq.1 hj with h1 | rfl
  · exact List.mem_append_left _ (h.got j t h1 ht)
  · rw [ha] at ht; cases ht; simp
theorem Q4.stop {L ts0 tsi ts : List Tm} {c0 c : Bool} {i : Nat} (h0 : Q3 L ts0 tsi c0 i) {t : Tm} (ht : tsi[i]? = some t) (h : Q4 L tsi ts (apartT tsi t) c0 c (apartT tsi t).length) : Q3 L ts0 ts c (i + 1) := by
  have hi := (List.getElem?_eq_some_iff.1 ht).1
  refine ⟨h.part, fun t ht => h.old _ (h0.base t ht), by have := h.len; omega, fun hc => ?_, fun hc => ?_⟩
  · rcases h.st with ⟨e, rfl⟩ | ⟨e, _⟩
    · rw [hc] at e
      obtain ⟨e0, hcl⟩ := h0.no e.symm
      refine ⟨e0, fun j x hj hx a ha => ?_⟩
      rcases Nat.lt_succ_iff_lt_or_eq.1 hj with h1 | rfl
      · exact hcl j x h1 hx a ha
      · rw [ht] at hx; cases hx
        obtain ⟨q, hq⟩ := List.getElem?_of_mem ha
        exact h.got q a (List.getElem?_eq_some_iff.1 hq).1 hq
    · rw [hc] at e; cases e
  · rcases h.st with ⟨e, rfl⟩ | ⟨_, hl⟩
    · exact h0.yes (e ▸ hc)
    · rcases Bool.eq_false_or_eq_true c0 with hh | hh
      · have := h0.yes hh; omega
      · rw [(h0.no hh).1] at hl; exact hl

/-- What was own stays so: an element's own memory is below the row's. -/
def DO (base : Nat) (v : Value) : Nat → Prop := fun b => base ≤ b ∧ v.ownBlock ≠ some b
theorem OTS.append2 {w w1 : World} {base : Nat} {ts : List Tm} {v v1 : Value} {a : Tm} {c0 c1 c2 : Value} {cs : List Value}
    (h : OTS w base ts v) (hcs : w.ownsRow base 25 3 v ts.length cs) (ha : TR w (DO base v) a (.agg #[c0, c1, c2])) (hbN : base ≤ w.heap.size)
    (ho : w1.ownsRow base 25 3 v1 (ts.length + 1) (cs ++ [c0, c1, c2])) (hg : w.grownBy w1 v.ownBlock) (hl : v1.ownBlock = v.ownBlock ∨ v1.ownBlock = some w.heap.size) :
    OTS w1 base (ts ++ [a]) v1 ∧ ∀ ms s, TS w (DO base v) ms s → TS w1 (DO base v1) ms s := by
  obtain ⟨cs', h', hr⟩ := h
  have e : cs' = cs := by
    rcases hcs.2 with ⟨rfl, hn⟩ | ⟨g, cap, cur, rfl, hb, hh, hc1, hc2, hcur, htake⟩
    · have x1 := h'.1; have x2 := hcs.1
      rw [hn] at x1 x2
      rw [List.length_eq_zero_iff.1 x1, List.length_eq_zero_iff.1 x2]
    · rcases h'.2 with ⟨e, _⟩ | ⟨g', cap', cur', e, hb', hh', _, _, _, htake'⟩
      · cases e
      · cases e
        rw [hh] at hh'
        cases hh'
        rw [← htake, ← htake']
  subst e
  have hlen := hcs.1
  have kk : ∀ k, DO base v k → k < w.heap.size → w1.heap[k]? = w.heap[k]? ∧ DO base v1 k := fun k hk hlt =>
    ⟨hg.block k hlt fun e => hk.2 e.symm, hk.1, fun e => by
      rcases hl with hl | hl
      · exact hk.2 (hl ▸ e)
      · rw [hl] at e; cases e; omega⟩
  refine ⟨⟨cs' ++ [c0, c1, c2], by simpa using ho, fun j b hj => ?_⟩, fun ms s hT => hT.keep kk⟩
  rcases Nat.lt_or_ge j ts.length with hlt | hge
  · rw [List.getElem?_append_left hlt] at hj
    obtain ⟨d0, d1, d2, e0, e1, e2, hT⟩ := hr j b hj
    exact ⟨d0, d1, d2, by rw [List.getElem?_append_left (by omega)]; exact e0, by rw [List.getElem?_append_left (by omega)]; exact e1, by rw [List.getElem?_append_left (by omega)]; exact e2, TR.keep hT kk⟩
  · have hj' : j = ts.length := by
      have := (List.getElem?_eq_some_iff.1 hj).1
      simp at this; omega
    subst hj'
    rw [List.getElem?_append_right (Nat.le_refl _), Nat.sub_self] at hj
    simp only [List.getElem?_cons_zero, Option.some.injEq] at hj
    subst hj
    have hx : ∀ i, (cs' ++ [c0, c1, c2])[ts.length * 3 + i]? = [c0, c1, c2][i]? := fun i => by
      rw [List.getElem?_append_right (by omega)]; congr 1; omega
    exact ⟨c0, c1, c2, hx 0, hx 1, hx 2, TR.keep ha kk⟩
/-- An element of one's own row. -/
theorem OTS.at2 {w : World} {base : Nat} {ts : List Tm} {A : Option Addr} {n c : Nat} (h : OTS w base ts (.slice A n c)) {j : Nat} {t : Tm} (hj : ts[j]? = some t) :
    ∃ g A' c', A = some ⟨g, 0, none⟩ ∧ base ≤ g ∧ g < w.heap.size ∧ w.cell? ⟨g, j * 3, none⟩ = some (.int .i64 t.k) ∧ w.cell? ⟨g, j * 3 + 1, none⟩ = some (.int .i64 t.n) ∧ w.cell? ⟨g, j * 3 + 2, none⟩ = some (.slice A' t.args.length c') ∧
      TR w (DO base (.slice A n c)) t (.agg #[.int .i64 t.k, .int .i64 t.n, .slice A' t.args.length c']) := by
  obtain ⟨cs, h, hr⟩ := h
  rcases h.2 with ⟨e, hn⟩ | ⟨g, cap, cur, e, hb, hh, hc1, hc2, hcur, htake⟩
  · rw [List.length_eq_zero_iff.1 hn] at hj; cases hj
  · cases e
    obtain ⟨c0, c1, c2, e0, e1, e2, hT⟩ := hr j t hj
    have f := fun i u (hu : cs[i]? = some u) => h.cells (g := g) rfl i u hu
    simp only [addr_add] at f
    obtain ⟨A', c', ea⟩ := hT.form3
    simp only [Value.agg.injEq, Array.mk.injEq, List.cons.injEq, and_true] at ea
    obtain ⟨rfl, rfl, rfl⟩ := ea
    exact ⟨g, A', c', rfl, hb, heap_lt hh, f _ _ e0, f _ _ e1, f _ _ e2, hT⟩
theorem OTS.tr {w : World} {base : Nat} {ts : List Tm} {v : Value} (h : OTS w base ts v) : TS w Any ts v := h.ts.any
def lenOf : Value → Nat
  | .slice _ n _ => n
  | _ => 0
def bitOf : Value → Nat
  | .bool true => 1
  | _ => 0
def LearnR (w : World) (L : List Tm) (e : Ending) (w' : World) : Prop := ∃ v ts, e = .returned v ∧ TS w' Any ts v ∧ Learnt L ts ∧ ts.Nodup ∧ Below w.heap.size w w'

set_option maxRecDepth 100000 in
set_option maxHeartbeats 6000000 in
theorem rLearn_any (L : List Tm) (v : Value) (w : World) (hL : mayL L = true) (hT : TS w Any L v) (hTab : Tab w) : Calls Tryd.prog 26 #[v] w (LearnR w L) := by
  obtain ⟨A, c, rfl, hc1, hc2⟩ := hT.form
  have HT := Lib.hid hT
  have HML := Lib.hid (mayL_iff.1 hL).2
  have HTab := Lib.hid hTab
  have HU := Lib.hid (univ_len hL)
  clear hT hL hTab
  obtain ⟨i0, hi, hz0, hz1, hz2⟩ := info_parts info25
  go_enter Tryd.func26, Tryd.ntmps26
  go_wp2_with fail
  go_loopw [3, 4] (fun l i wr => ∃ (j : Nat) (ts : List Tm), i = .int .i64 j ∧ j ≤ L.length ∧ Hid (OTS wr w.heap.size ts l) ∧ Hid (Q1 L j ts) ∧ Hid (Below w.heap.size w wr)) (fun _ i _ => L.length - (intOf i).toNat)
  case atStart => exact ⟨0, [], rfl, Nat.zero_le _, OTS.nil _ _, ⟨Part.nil _, fun i t h => absurd h (Nat.not_lt_zero _)⟩, Below.refl _ _⟩
  case round =>
    obtain ⟨j, ts, rfl, hj, HO, HQ, HB⟩ := hrel
    obtain ⟨Al, cl, rfl, hl1, hl2⟩ := HO.out.form
    have HBS := Lib.hid HB.out.size
    by_cases hlt : j < L.length
    · obtain ⟨a, ha⟩ : ∃ a, L[j]? = some a := ⟨_, List.getElem?_eq_getElem hlt⟩
      obtain ⟨b, o, A2, cc, rfl, _, hbs, c0, c1, c2, hTa⟩ := HT.out.at_ ha
      have d0 := (HB.out.cell (p := ⟨b, o + j * 3, none⟩) hbs).trans c0
      have d1 := (HB.out.cell (p := ⟨b, o + j * 3 + 1, none⟩) hbs).trans c1
      have d2 := (HB.out.cell (p := ⟨b, o + j * 3 + 2, none⟩) hbs).trans c2
      have hgo := good_ord (HML.out a (List.mem_of_getElem? ha))
      have hko : Know L (ord a) := (Know.closed L).base a (List.mem_of_getElem? ha)
      obtain ⟨f1, f2⟩ := (may_iff a).1 (HML.out a (List.mem_of_getElem? ha))
      have hor : Hid (Calls Tryd.prog 18 #[.agg #[.int .i64 a.k, .int .i64 a.n, .slice A2 a.args.length cc]] wr fun e w' => ∃ Ao co, e = .returned (.agg #[.int .i64 (ord a).k, .int .i64 (ord a).n, .slice Ao (ord a).args.length co]) ∧ TR w' (fun b => wr.heap.size ≤ b) (ord a) (.agg #[.int .i64 (ord a).k, .int .i64 (ord a).n, .slice Ao (ord a).args.length co]) ∧ Below wr.heap.size wr w') :=
        (rOrder_any _ a _ wr (Nat.le_refl _) f1 f2 (hTa.bel HB.out) (HTab.out.bel HB.out)).mono fun e w' h => by
          obtain ⟨v', rfl, hT', hb'⟩ := h
          obtain ⟨Ao, co, rfl⟩ := hT'.form3
          exact ⟨Ao, co, rfl, hT', hb'⟩
      have HAA := Lib.hid ha
      have HGO := Lib.hid hgo
      have HKO := Lib.hid hko
      clear ha c0 c1 c2 hTa f1 f2 hgo hko
      obtain ⟨oa, hoa⟩ : ∃ oa, oa = ord a := ⟨_, rfl⟩
      rw [← hoa] at hor HGO HKO
      have HOA := Lib.hid hoa
      clear hoa
      go_upto_region 6 with (go_at_call 18; with_reducible refine hor.out.mono ?_; clear hor; rintro e w2 ⟨Ao, co, rfl, hTo, hb⟩; have HTO := Lib.hid hTo; have HB2 := Lib.hid hb; clear hb hTo)
      obtain ⟨w5, hw5⟩ : ∃ w5, w5 = w2.alloc (.cells #[.int .i64 oa.k, .int .i64 oa.n, .slice Ao oa.args.length co] 25) := ⟨_, rfl⟩
      rw [← hw5]
      have HB5 : Hid (Below w2.heap.size w2 w5) := by rw [hw5]; exact bself _ _
      have HX5 : Hid (w5.heap[w2.heap.size]? = some (.cells #[.int .i64 oa.k, .int .i64 oa.n, .slice Ao oa.args.length co] 25 (0, 0))) := by rw [hw5]; exact heap_alloc_new _ _
      clear hw5 d0 d1 d2
      have HBR := Lib.hid (bthen HB2.out HB5.out)
      have HTO5 := Lib.hid (HTO.out.bel HB5.out)
      have HIN : Hid (Calls Tryd.prog 45 #[.agg #[.int .i64 oa.k, .int .i64 oa.n, .slice Ao oa.args.length co], .slice Al ts.length cl] w5 fun e w' => e = .returned (.bool (inS oa ts)) ∧ Below w5.heap.size w5 w') := in_any oa ts _ _ w5 HTO5.out.any ((HO.out.bel HBR.out).tr)
      have q0 := (blk_cell HX5.out 0).trans rfl
      have q1 := (blk_cell HX5.out 1).trans rfl
      have q2 := (blk_cell HX5.out 2).trans rfl
      obtain ⟨y, hy⟩ : ∃ y, y = inS oa ts := ⟨_, rfl⟩
      rw [← hy] at HIN
      have HY := Lib.hid hy
      clear hy
      cases y with
      | true =>
        go_wp2_with (go_at_call 45; with_reducible refine HIN.out.mono ?_; rintro e w6 ⟨rfl, hb⟩; have HB6 := Lib.hid hb; clear hb)
        go_roundw
        case rel => exact ⟨j + 1, ts, by go_num, by omega, HO.out.bel (bthen HBR.out HB6.out), HQ.out.next HAA.out HQ.out.part (fun _ h => h) (by rw [← HOA.out]; exact inS_iff.1 HY.out.symm), bthen HB.out (bthen HBR.out HB6.out)⟩
        case measure => simp [intOf]; omega
      | false =>
        have HNI := Lib.hid (show oa ∉ ts from fun h => by rw [inS_iff.2 h] at HY; have := HY.out; cases this)
        have HLN := Lib.hid (HQ.out.part.len)
        obtain ⟨cs, hcs, _⟩ := HO.out
        have HCS := Lib.hid hcs
        clear hcs
        go_wp2_with (first
          | (go_at_call 45; with_reducible refine HIN.out.mono ?_; rintro e w6 ⟨rfl, hb⟩; have HB6 := Lib.hid hb; clear q0 q1 q2; have hx6 := Grew.grow_heap hb HX5.out; have q0 := (blk_cell hx6 0).trans rfl; have q1 := (blk_cell hx6 1).trans rfl; have q2 := (blk_cell hx6 2).trans rfl; have HWA := Lib.hid (bthen (bthen HBR.out hb) (bself w6 (.cells #[.int .i64 oa.k, .int .i64 oa.n, .slice Ao oa.args.length co] 25))); clear hb hx6)
          | (at_builtin; refine wpList_append_own_at _ rfl _ _ 22 rfl w.heap.size 25 i0 _ 3 40 Tryd.underlying22 hi hz0 hz1 hz2 rfl (by decide) (.slice Al ts.length cl) _ cs rfl (own_bel HCS.out HWA.out) ⟨w6.heap.size, 0, none⟩ 1 1 [.int .i64 oa.k, .int .i64 oa.n, .slice Ao oa.args.length co] rfl rfl (news3 (heap_alloc_new _ _)) (ones3 _ _ _ _ _) ?p1 ?p2 ?p3 ?p4; rotate_right; intro v1 w7 hown1 hg1 _ hloc; have H1 := Lib.hid hown1; have H2 := Lib.hid hg1; have H3 := Lib.hid hloc; clear hown1 hg1 hloc))
        case p1 => unfold maxLen; have := HLN.out; have := HU.out; omega
        case p2 => have := HLN.out; have := HU.out; omega
        case p3 => have := HBS.out; have := HWA.out.size; omega
        have HOA7 := Lib.hid ((HO.out.bel HWA.out).append2 (own_bel HCS.out HWA.out) ((HTO.out.bel (bthen HB5.out (bthen HB6.out (bself w6 _)))).mono fun b hb _ => ⟨by have := HBS.out; omega, fun e => by have := (HO.out.base b e).2; omega⟩) (by have := HBS.out; have := HWA.out.size; omega) H1.out H2.out H3.out).1
        go_roundw
        case rel =>
          refine ⟨j + 1, ts ++ [oa], by go_num, by omega, by unfold Hid; exact HOA7.out, HQ.out.next HAA.out (HQ.out.part.snoc HGO.out HKO.out HNI.out) (fun t ht => List.mem_append_left _ ht) (by rw [← HOA.out]; simp), ?_⟩
          exact Below.grown (bthen HB.out HWA.out) H2.out (by have := HBS.out; have := HWA.out.size; omega) (fun k hk => (HO.out.base k hk).1)
        case measure => simp [intOf]; omega
    · obtain rfl : j = L.length := by omega
      have hq2 : Q2 L ts true := ⟨HQ.out.part, fun t ht => by
        obtain ⟨i, hi⟩ := List.getElem?_of_mem ht
        exact HQ.out.got i t (List.getElem?_eq_some_iff.1 hi).1 hi, fun h => by cases h⟩
      go_wp2_with fail
      go_loopw [3, 6] (fun l ch wr => ∃ (ts : List Tm) (c : Bool), ch = .bool c ∧ Hid (OTS wr w.heap.size ts l) ∧ Hid (Q2 L ts c) ∧ Hid (Below w.heap.size w wr)) (fun l ch _ => 2 * ((univ L).length - lenOf l) + bitOf ch)
      case atStart => exact ⟨ts, true, rfl, HO, hq2, HB⟩
      case round =>
        clear hq2 HQ HO HB HBS hl1 hl2
        obtain ⟨ts, c, rfl, HO, HQ, HB⟩ := hrel
        obtain ⟨Al, cl, rfl, hl1, hl2⟩ := HO.out.form
        cases c with
        | false =>
          go_wp2_with fail
          go_ret
          exact ⟨_, ts, rfl, HO.out.tr, ⟨HQ.out.part.good, HQ.out.base, HQ.out.part.know, HQ.out.closed rfl⟩, HQ.out.part.nodup, HB.out⟩
        | true =>
          go_wp2_with fail
          go_loopw [3, 6, 7] (fun l ch i wr => ∃ (tsn : List Tm) (c : Bool) (p : Nat), ch = .bool c ∧ i = .int .i64 p ∧ Hid (OTS wr w.heap.size tsn l) ∧ Hid (Q3 L ts tsn c p) ∧ Hid (Below w.heap.size w wr)) (fun _ _ i _ => (univ L).length + 1 - (intOf i).toNat)
          case atStart => exact ⟨ts, false, 0, rfl, rfl, HO, Q3.start HQ.out, HB⟩
          case round =>
            have HLN0 := Lib.hid HQ.out.part.len
            clear HO HQ HB hl1 hl2
            obtain ⟨tsn, ch, p, rfl, rfl, HO, HQ, HB⟩ := hrel
            obtain ⟨An, cn, rfl, hl1, hl2⟩ := HO.out.form
            have HLN := Lib.hid HQ.out.part.len
            have hple := HQ.out.le
            have hmax : tsn.length ≤ 1000000 := by have := HLN.out; have := HU.out; omega
            by_cases hlt : p < tsn.length
            · obtain ⟨t, ht⟩ : ∃ t, tsn[p]? = some t := ⟨_, List.getElem?_eq_getElem hlt⟩
              obtain ⟨k, n, args⟩ := t
              obtain ⟨g, A2, cc, rfl, hgb, hgl, c0, c1, c2, hTt⟩ := HO.out.at2 ht
              have d0 : wr.cell? ⟨g, p * 3, none⟩ = some (.int .i64 k) := c0
              have d1 : wr.cell? ⟨g, p * 3 + 1, none⟩ = some (.int .i64 n) := c1
              have d2 : wr.cell? ⟨g, p * 3 + 2, none⟩ = some (.slice A2 args.length cc) := c2
              obtain ⟨_, e, hki, hni, hS⟩ := hTt.inv
              cases e
              have hgd := HQ.out.part.good _ (List.mem_of_getElem? ht)
              have HS : Hid (TS wr (DO w.heap.size (.slice (some ⟨g, 0, none⟩) tsn.length cn)) args (.slice A2 args.length cc)) := hS
              have HGD := Lib.hid hgd
              have HTT := Lib.hid ht
              clear c0 c1 c2 hTt hS hgd ht
              obtain ⟨ms, hms⟩ : ∃ ms, ms = apartT tsn (.mk k n args) := ⟨_, rfl⟩
              have HMS := Lib.hid hms
              clear hms
              go_upto_block 6 with fail
              go_cut [8] from 41 to 72 (fun m8 w' => ∃ A8 c8, m8 = .slice A8 ms.length c8 ∧ ms.length ≤ c8 ∧ c8 ≤ 9223372036854775807 ∧ Hid (TS w' (DO w.heap.size (.slice (some ⟨g, 0, none⟩) tsn.length cn)) ms (.slice A8 ms.length c8)) ∧ Hid (Below wr.heap.size wr w'))
              case first =>
                by_cases h7 : k = 7
                · have e7 : (k == 7) = true := by simpa using h7
                  have HM : Hid (ms = args) := by unfold Hid; rw [HMS.out, apartT, apartK, if_pos h7]
                  clear h7
                  go_wp2_with fail
                  go_meet
                  case rel => exact ⟨A2, cc, by rw [HM.out], by rw [HM.out]; obtain ⟨_, _, _, h1, h2, _⟩ := HS.out; cases h1; exact h2, by obtain ⟨_, _, _, h1, _, h3, _⟩ := HS.out; cases h1; exact h3, by rw [HM.out]; exact HS, Below.refl _ _⟩
                have e7 : (k == 7) = false := by rw [beq_eq_false_iff_ne]; exact h7
                have H7 := Lib.hid h7
                clear h7
                by_cases h5 : k = 5
                · have e5 : (k == 5) = true := by simpa using h5
                  obtain ⟨x, y, rfl⟩ := two_args HGD.out.1 (by omega) (by omega)
                  have HM : Hid (ms = [y]) := by unfold Hid; rw [HMS.out, apartT, apartK, if_neg H7.out, if_pos (.inl h5)]; rfl
                  clear h5
                  obtain ⟨bb, o, A', c', rfl, _⟩ := HS.out.at_ (j := 0) rfl
                  have HD := Lib.hid (HS.out.drop1)
                  have hc5 : 2 ≤ cc ∧ cc ≤ 9223372036854775807 := by obtain ⟨_, _, _, h1, h2, h3, _⟩ := HS.out; cases h1; exact ⟨h2, h3⟩
                  obtain ⟨hc5, hc6⟩ := hc5
                  simp only [List.length_cons, List.length_nil, Nat.zero_add, Nat.reduceAdd] at d2
                  go_wp2_with fail
                  go_meet
                  case rel => exact ⟨some ⟨bb, o + 3, none⟩, cc - 1, by rw [HM.out]; rfl, by rw [HM.out]; show 1 ≤ cc - 1; omega, by omega, by rw [HM.out]; exact HD.out, Below.refl _ _⟩
                have e5 : (k == 5) = false := by rw [beq_eq_false_iff_ne]; exact h5
                have H5 := Lib.hid h5
                clear h5
                by_cases h4 : k = 4
                · have e4 : (k == 4) = true := by simpa using h4
                  obtain ⟨x, y, rfl⟩ := two_args HGD.out.1 (by omega) (by omega)
                  have HM : Hid (ms = if canB tsn x = true then [y] else []) := by
                    unfold Hid
                    rw [HMS.out, apartT, apartK, if_neg H7.out]
                    by_cases hc : canB tsn x = true
                    · rw [if_pos (.inr ⟨h4, hc⟩), if_pos hc]; rfl
                    · rw [if_neg (by rintro (h | h); exact H5.out h; exact hc h.2), if_neg hc]
                  clear h4
                  obtain ⟨bb, o, A', c', rfl, _, hbs, a0, a1, a2, hTx⟩ := HS.out.at_ (j := 0) rfl
                  have HD := Lib.hid (HS.out.drop1)
                  have hc5 : 2 ≤ cc ∧ cc ≤ 9223372036854775807 := by obtain ⟨_, _, _, h1, h2, h3, _⟩ := HS.out; cases h1; exact ⟨h2, h3⟩
                  obtain ⟨hc5, hc6⟩ := hc5
                  simp only [List.length_cons, List.length_nil, Nat.zero_add, Nat.reduceAdd] at d2
                  simp only [Nat.zero_mul, Nat.add_zero] at a0 a1 a2
                  have hmd := Lib.hid (made_any tsn (fun t ht => (HQ.out.part.good t ht).1) _ x _ _ wr (Nat.le_refl _) (form_mem HGD.out.1 (by simp)) hTx.any HO.out.tr)
                  have D2 := Lib.hid d2
                  cases hc : canB tsn x with
                  | true =>
                    rw [hc] at hmd HM
                    have HM : Hid (ms = [y]) := HM.out
                    go_wp2_with (go_at_call 46; refine hmd.out.mono ?_; rintro e w6 ⟨rfl, hb⟩; have HB6 := Lib.hid hb; clear d2; have d2 := (hb.cell (p := ⟨g, p * 3 + 2, none⟩) hgl).trans D2.out; clear hb)
                    go_meet
                    case rel => exact ⟨some ⟨bb, o + 3, none⟩, cc - 1, by rw [HM.out]; rfl, by rw [HM.out]; show 1 ≤ cc - 1; omega, by omega, by rw [HM.out]; exact HD.out.bel HB6.out, HB6.out⟩
                  | false =>
                    rw [hc] at hmd HM
                    have HM : Hid (ms = []) := HM.out
                    go_wp2_with (go_at_call 46; refine hmd.out.mono ?_; rintro e w6 ⟨rfl, hb⟩; have HB6 := Lib.hid hb; clear hb)
                    go_meet
                    case rel => exact ⟨none, 0, by rw [HM.out]; rfl, by rw [HM.out]; exact Nat.le_refl 0, by omega, by rw [HM.out]; exact TS.nil _ _, HB6.out⟩
                have e4 : (k == 4) = false := by rw [beq_eq_false_iff_ne]; exact h4
                have HM : Hid (ms = []) := by unfold Hid; rw [HMS.out, apartT, apartK, if_neg H7.out, if_neg (by rintro (h | h); exact H5.out h; exact h4 h.1)]
                clear h4
                go_wp2_with fail
                go_meet
                case rel => exact ⟨none, 0, by rw [HM.out]; rfl, by rw [HM.out]; exact Nat.le_refl 0, by omega, by rw [HM.out]; exact TS.nil _ _, Below.refl _ _⟩
              case rest =>
                obtain ⟨A8, c8, rfl, hm1, hm2, HTM, HBC⟩ := hcut
                have HOC := Lib.hid (HO.out.bel HBC.out)
                have HBB := Lib.hid (bthen HB.out HBC.out)
                have hms0 : Q4 L tsn tsn ms ch ch 0 := by rw [HMS.out]; exact Q4.start HQ.out (List.mem_of_getElem? HTT.out)
                have HQ4 := Lib.hid hms0
                clear hms0 d0 d1 d2
                go_wp2_with fail
                have hp64 : p ≤ 1000000 := by omega
                go_loopw [3, 6, 9] (fun l ch' k wr => ∃ (tsq : List Tm) (cq : Bool) (q : Nat), ch' = .bool cq ∧ k = .int .i64 q ∧ q ≤ ms.length ∧ Hid (OTS wr w.heap.size tsq l) ∧ Hid (TS wr (DO w.heap.size l) ms (.slice A8 ms.length c8)) ∧ Hid (Q4 L tsn tsq ms ch cq q) ∧ Hid (Below w.heap.size w wr)) (fun _ _ k _ => ms.length - (intOf k).toNat)
                case atStart => exact ⟨tsn, ch, 0, rfl, rfl, Nat.zero_le _, HOC, HTM, HQ4, HBB⟩
                case round =>
                  clear HOC HTM HQ4 HBB HBC HB HO HS hl1 hl2 hmax
                  obtain ⟨tsq, cq, q, rfl, rfl, hq, HO, HTM, HQ4, HB⟩ := hrel
                  obtain ⟨Aq, cq2, rfl, hl1, hl2⟩ := HO.out.form
                  have HBS := Lib.hid HB.out.size
                  have HLQ := Lib.hid (HQ4.out.part.len)
                  have hmax : tsq.length ≤ 1000000 := by have := HLQ.out; have := HU.out; omega
                  by_cases hlt2 : q < ms.length
                  · obtain ⟨x, hx⟩ : ∃ x, ms[q]? = some x := ⟨_, List.getElem?_eq_getElem hlt2⟩
                    obtain ⟨b8, o8, A3, c3, rfl, _, hb8, a0, a1, a2, hTx⟩ := HTM.out.at_ hx
                    have HTX := Lib.hid hTx
                    have HXX := Lib.hid hx
                    have hin := Lib.hid (in_any x tsq _ _ wr hTx.any HO.out.tr)
                    have X0 := Lib.hid a0
                    have X1 := Lib.hid a1
                    have X2 := Lib.hid a2
                    clear hTx hx
                    obtain ⟨y, hy⟩ : ∃ y, y = inS x tsq := ⟨_, rfl⟩
                    rw [← hy] at hin
                    have HY := Lib.hid hy
                    clear hy
                    cases y with
                    | true =>
                      go_wp2_with (go_at_call 45; refine hin.out.mono ?_; rintro e w6 ⟨rfl, hb⟩; have HB6 := Lib.hid hb; clear hb)
                      go_roundw
                      case rel => exact ⟨tsq, cq, q + 1, rfl, by go_num, by omega, HO.out.bel HB6.out, HTM.out.bel HB6.out, HQ4.out.has HXX.out (inS_iff.1 HY.out.symm), bthen HB.out HB6.out⟩
                      case measure => simp [intOf]; omega
                    | false =>
                      have HNI := Lib.hid (show x ∉ tsq from fun h => by rw [inS_iff.2 h] at HY; have := HY.out; cases this)
                      obtain ⟨cs, hcs, _⟩ := HO.out
                      have HCS := Lib.hid hcs
                      clear hcs
                      go_wp2_with (first
                        | (go_at_call 45; refine hin.out.mono ?_; rintro e w6 ⟨rfl, hb⟩; have HB6 := Lib.hid hb; clear a0 a1 a2; have a0 := (hb.cell (p := ⟨b8, o8 + q * 3, none⟩) hb8).trans X0.out; have a1 := (hb.cell (p := ⟨b8, o8 + q * 3 + 1, none⟩) hb8).trans X1.out; have a2 := (hb.cell (p := ⟨b8, o8 + q * 3 + 2, none⟩) hb8).trans X2.out; have HWA := Lib.hid (bthen hb (bself w6 (.cells #[.int .i64 x.k, .int .i64 x.n, .slice A3 x.args.length c3] 25))); clear hb)
                        | (at_builtin; refine wpList_append_own_at _ rfl _ _ 22 rfl w.heap.size 25 i0 _ 3 40 Tryd.underlying22 hi hz0 hz1 hz2 rfl (by decide) (.slice Aq tsq.length cq2) _ cs rfl (own_bel HCS.out HWA.out) ⟨w6.heap.size, 0, none⟩ 1 1 [.int .i64 x.k, .int .i64 x.n, .slice A3 x.args.length c3] rfl rfl (news3 (heap_alloc_new _ _)) (ones3 _ _ _ _ _) ?r1 ?r2 ?r3 ?r4; rotate_right; intro v1 w7 hown1 hg1 _ hloc; have H1 := Lib.hid hown1; have H2 := Lib.hid hg1; have H3 := Lib.hid hloc; clear hown1 hg1 hloc))
                      case r1 => unfold maxLen; omega
                      case r2 => omega
                      case r3 => have := HBS.out; have := HWA.out.size; omega
                      have HAP := Lib.hid ((HO.out.bel HWA.out).append2 (own_bel HCS.out HWA.out) (HTX.out.bel HWA.out) (by have := HBS.out; have := HWA.out.size; omega) H1.out H2.out H3.out)
                      go_roundw
                      case rel =>
                        refine ⟨tsq ++ [x], true, q + 1, rfl, by go_num, by omega, HAP.out.1, HAP.out.2 _ _ (HTM.out.bel HWA.out), HQ4.out.add HXX.out HNI.out, ?_⟩
                        exact Below.grown (bthen HB.out HWA.out) H2.out (by have := HBS.out; have := HWA.out.size; omega) (fun k hk => (HO.out.base k hk).1)
                      case measure => simp [intOf]; omega
                  · obtain rfl : q = ms.length := by omega
                    go_wp2_with fail
                    go_roundw
                    case rel =>
                      have h4 := HQ4.out
                      rw [HMS.out] at h4
                      exact ⟨tsq, cq, p + 1, rfl, by go_num, HO, Q4.stop HQ.out HTT.out h4, HB⟩
                    case measure => have := HLN.out; simp [intOf]; omega
            · obtain rfl : p = tsn.length := by omega
              go_wp2_with fail
              go_roundw
              case rel => exact ⟨tsn, ch, rfl, HO, HQ.out.stop, HB⟩
              case measure =>
                have h0 := HLN0.out
                have h1 := HLN.out
                cases ch with
                | true => have := HQ.out.yes rfl; simp [lenOf, bitOf]; omega
                | false => have := (HQ.out.no rfl).1; subst this; simp [lenOf, bitOf]
end Go.Proofs.YtfhpnkmhppfeiaaDoor
