/- The map of what is known. -/
import Derived.Test.YtfhpnkmhppfeiaaDoorG2
import Derived.Test.YtfhpnkmhppfeiaaDoorPlain3
set_option linter.unusedVariables false
set_option linter.unusedSimpArgs false
namespace Go.Proofs.YtfhpnkmhppfeiaaDoor
open Go.RowKit Go.Proofs

def KE (w : World) (D : Nat → Prop) : List MapEntry → List Tm → Prop
  | [], [] => True
  | e :: es, t :: ts => (∃ v bo, e = ⟨.string ⟨(txt t).toArray⟩, v, bo⟩ ∧ TR w D t v) ∧ KE w D es ts
  | _, _ => False
def KM (w : World) (D : Nat → Prop) (b : Nat) (ts : List Tm) : Prop := (∀ t ∈ ts, good t) ∧ ∃ es c, w.heap[b]? = some (.map es c) ∧ KE w D es.toList ts ∧ (∀ x ∈ es.toList, x.born < c) ∧ (es.toList.map (·.born)).Nodup
theorem KE.keep {w w' : World} {D D' : Nat → Prop} (hk : ∀ k, D k → k < w.heap.size → w'.heap[k]? = w.heap[k]? ∧ D' k) : ∀ {es : List MapEntry} {ts : List Tm}, KE w D es ts → KE w' D' es ts
  | [], [], _ => trivial
  | e :: es, t :: ts, ⟨⟨v, bo, h1, h2⟩, h3⟩ => ⟨⟨v, bo, h1, h2.keep hk⟩, KE.keep hk h3⟩
theorem KM.lt {w : World} {D : Nat → Prop} {b : Nat} {ts : List Tm} (h : KM w D b ts) : b < w.heap.size := by
  obtain ⟨_, es, c, h, _⟩ := h; exact (Array.getElem?_eq_some_iff.1 h).1
theorem KM.bel {w w' : World} {D : Nat → Prop} {b : Nat} {ts : List Tm} (h : KM w D b ts) (hb : Below w.heap.size w w') : KM w' D b ts := by
  have hl := h.lt
  obtain ⟨g, es, c, h, hr, hst⟩ := h
  exact ⟨g, es, c, (hb.block b hl).trans h, hr.keep (fun k hD hk => ⟨hb.block k hk, hD⟩), hst⟩
theorem KM.any {w : World} {D : Nat → Prop} {b : Nat} {ts : List Tm} (h : KM w D b ts) : KM w Any b ts := by
  obtain ⟨g, es, c, h, hr, hst⟩ := h
  exact ⟨g, es, c, h, hr.keep (fun k hD hk => ⟨rfl, trivial⟩), hst⟩
theorem KM.grew {S D : Nat → Prop} {w w' : World} {b : Nat} {ts : List Tm} (h : KM w D b ts) (hg : Grew S w w') (hb : ¬ S b) (hd : ∀ k, D k → ¬ S k) : KM w' D b ts := by
  have hl := h.lt
  obtain ⟨g, es, c, h, hr, hst⟩ := h
  exact ⟨g, es, c, (hg.block b hl hb).trans h, hr.keep (fun k hD hk => ⟨hg.block k hk (hd k hD), hD⟩), hst⟩
theorem KM.form {w : World} {D : Nat → Prop} {b : Nat} {ts : List Tm} (h : KM w D b ts) : ∀ t ∈ ts, Go.Proofs.YtfhpnkmhppfeiaaDoor.form t = true := fun t ht => (h.1 t ht).1

theorem bs_beq (x y : Bs) : ((⟨x.toArray⟩ : ByteArray) == ⟨y.toArray⟩) = decide (x = y) := by
  show (x.toArray == y.toArray) = decide (x = y)
  rw [Bool.eq_iff_iff]; simp
theorem bs_self (x : ByteArray) : (x == x) = true := by
  show (x.data == x.data) = true
  simp
theorem find_K {w : World} {D : Nat → Prop} (s : Bs) : ∀ {es : List MapEntry} {ts : List Tm}, KE w D es ts → ∀ i, (hasT ts s = false ∧ Instr.findNow .string (.string ⟨s.toArray⟩) es i = some none) ∨
    (hasT ts s = true ∧ ∃ j t v, Instr.findNow .string (.string ⟨s.toArray⟩) es i = some (some (i + j, v)) ∧ ts[j]? = some t ∧ txt t = s ∧ TR w D t v)
  | [], [], _, i => .inl ⟨rfl, rfl⟩
  | e :: es, t :: ts, ⟨⟨v, bo, h1, h2⟩, h3⟩, i => by
    subst h1
    by_cases e : txt t = s
    · subst e
      refine .inr ⟨by simp [hasT], 0, t, v, ?_, rfl, rfl, h2⟩
      simp [Instr.findNow, Instr.sameNow, bs_self]
    · have e1 : ((⟨s.toArray⟩ : ByteArray) == ⟨(txt t).toArray⟩) = false := by
        rw [bs_beq, decide_eq_false_iff_not]
        exact fun h => e h.symm
      have e2 : hasT (t :: ts) s = hasT ts s := by simp [hasT, e]
      rw [e2]
      rcases find_K s h3 (i + 1) with ⟨a, b⟩ | ⟨a, j, u, x, f, g, k, l⟩
      · exact .inl ⟨a, by simp [Instr.findNow, Instr.sameNow, e1, b]⟩
      · refine .inr ⟨a, j + 1, u, x, ?_, by simpa using g, k, l⟩
        simp only [Instr.findNow, Instr.sameNow, e1, f]
        congr 3; omega
def zeroT : Value := .agg #[.int .i64 0, .int .i64 0, .slice none 0 0]
theorem zero25 (w : World) : (zeroValue 25).run Tryd.prog w = .ok zeroT w := by kernel_rfl
theorem check9 (b : Bool) (s : ByteArray) (w : World) : (Instr.checkKey b 10000 9 (.string s)).run Tryd.prog w = .ok () w := by kernel_rfl
/-- A look into what is known. -/
theorem look_K {w : World} {D : Nat → Prop} {b : Nat} {ts : List Tm} (h : KM w D b ts) (s : Bs) : ∃ v, (∀ w', w'.heap[b]? = w.heap[b]? → (Instr.lookup 56 (.map (some b)) (.string ⟨s.toArray⟩) false).run Tryd.prog w' = .ok v w') ∧
    (∀ w', w'.heap[b]? = w.heap[b]? → (Instr.lookup 56 (.map (some b)) (.string ⟨s.toArray⟩) true).run Tryd.prog w' = .ok (.tuple #[v, .bool (hasT ts s)]) w') ∧ ((hasT ts s = false ∧ v = zeroT) ∨ (hasT ts s = true ∧ ∃ t ∈ ts, txt t = s ∧ TR w D t v)) := by
  obtain ⟨g, es, c, hm, hr, hst⟩ := h
  have hg := fun w' (e : w'.heap[b]? = w.heap[b]?) => run_getMap (P := Tryd.prog) (w := w') (e.trans hm)
  rcases find_K s hr 0 with ⟨a, f⟩ | ⟨a, j, t, v, f, ht, hs, hv⟩
  · refine ⟨zeroT, fun w' e => ?_, fun w' e => ?_, .inl ⟨a, rfl⟩⟩
    · simp [Instr.lookup, go_sem, hg w' e, check9, Instr.findKey, f, zero25, zeroT]
    · simp [Instr.lookup, go_sem, hg w' e, check9, Instr.findKey, f, zero25, zeroT, a]
  · refine ⟨v, fun w' e => ?_, fun w' e => ?_, .inr ⟨a, t, List.mem_of_getElem? ht, hs, hv⟩⟩
    · simp [Instr.lookup, go_sem, hg w' e, check9, Instr.findKey, f]
    · simp [Instr.lookup, go_sem, hg w' e, check9, Instr.findKey, f, a]
/-- Its kind tells whether it was there. -/
theorem look_kind {w : World} {D : Nat → Prop} {ts : List Tm} (hg : ∀ t ∈ ts, good t) {s : Bs} {v : Value} (h : (hasT ts s = false ∧ v = zeroT) ∨ (hasT ts s = true ∧ ∃ t ∈ ts, txt t = s ∧ TR w D t v)) :
    ∃ k n A l c, v = .agg #[.int .i64 k, .int .i64 n, .slice A l c] ∧ (k == 0) = !hasT ts s := by
  rcases h with ⟨a, rfl⟩ | ⟨a, t, ht, hs, hv⟩
  · exact ⟨0, 0, none, 0, 0, rfl, by rw [a]; rfl⟩
  · obtain ⟨A, c, rfl⟩ := hv.form3
    refine ⟨_, _, _, _, _, rfl, ?_⟩
    rw [a]
    have hf := (hg t ht).1
    obtain ⟨k, n, args⟩ := t
    have := (headOK_iff.1 (form_head hf).1).1
    show (k == 0) = false
    rw [beq_eq_false_iff_ne]; omega
def kput (ts : List Tm) (t : Tm) : List Tm := if hasT ts (txt t) = true then ts else ts ++ [t]
theorem KE.append {w : World} {D : Nat → Prop} {e : MapEntry} {t : Tm} (h2 : ∃ v bo, e = ⟨.string ⟨(txt t).toArray⟩, v, bo⟩ ∧ TR w D t v) : ∀ {es : List MapEntry} {ts : List Tm}, KE w D es ts → KE w D (es ++ [e]) (ts ++ [t])
  | [], [], _ => ⟨h2, trivial⟩
  | _ :: _, _ :: _, ⟨h1, h3⟩ => ⟨h1, KE.append h2 h3⟩
theorem KE.set {w : World} {D : Nat → Prop} {t : Tm} {v : Value} (hv : TR w D t v) : ∀ {es : List MapEntry} {ts : List Tm} (j : Nat), KE w D es ts → ts[j]? = some t →
    KE w D (es.modify j fun e => { e with key := .string ⟨(txt t).toArray⟩, val := v }) ts
  | [], [], j, _, hj => by simp at hj
  | e :: es, u :: ts, 0, ⟨⟨x, bo, h1, h2⟩, h3⟩, hj => by
    simp only [List.getElem?_cons_zero, Option.some.injEq] at hj
    subst hj
    exact ⟨⟨v, bo, by rw [h1], hv⟩, h3⟩
  | e :: es, u :: ts, j + 1, ⟨h1, h3⟩, hj => ⟨h1, KE.set hv j h3 (by simpa using hj)⟩
theorem stays_str (s : ByteArray) (w : World) : (Instr.keyThatStays (.string s) (.string s)).run Tryd.prog w = .ok (.string s) w := by
  have e : Instr.sameBits 10000 (.string s) (.string s) = true := bs_self s
  simp [Instr.keyThatStays, e, go_sem]
theorem map_modify_born (k v : Value) : ∀ (l : List MapEntry) (j : Nat), (l.modify j fun e => { e with key := k, val := v }).map (·.born) = l.map (·.born)
  | [], j => by simp
  | e :: l, 0 => by simp [List.modify_cons]
  | e :: l, j + 1 => by simp [List.modify_succ_cons, map_modify_born k v l j]
/-- A term is laid into what is known. -/
theorem put_K {w : World} {D : Nat → Prop} {b : Nat} {ts : List Tm} (h : KM w D b ts) {t : Tm} (hg : good t) {v : Value} (hv : TR w D t v) (hD : ¬ D b) :
    ∃ w', (Instr.mapUpdate 56 (.map (some b)) (.string ⟨(txt t).toArray⟩) v).run Tryd.prog w = .ok () w' ∧ KM w' D b (kput ts t) ∧ Grew (fun k => k = b) w w' := by
  have hl := h.lt
  obtain ⟨g, es, c, hm, hr, hst⟩ := h
  have hgm := run_getMap (P := Tryd.prog) hm
  have grow : ∀ o, Grew (fun k => k = b) w { w with heap := w.heap.setIfInBounds b o } := fun o =>
    ⟨rfl, rfl, rfl, by simp, fun k hk hn => by simp [Array.getElem?_setIfInBounds, Ne.symm hn]⟩
  have keep : ∀ o, ∀ k, D k → k < w.heap.size → (World.heap { w with heap := w.heap.setIfInBounds b o })[k]? = w.heap[k]? ∧ D k := fun o k hk hlt =>
    ⟨(grow o).block k hlt fun e => hD (e ▸ hk), hk⟩
  rcases find_K (txt t) hr 0 with ⟨a, f⟩ | ⟨a, j, u, x, f, hj, hs, hu⟩
  · refine ⟨{ w with heap := w.heap.setIfInBounds b (.map (es.push ⟨.string ⟨(txt t).toArray⟩, v, c⟩) (c + 1)) }, ?_, ⟨?_, es.push ⟨.string ⟨(txt t).toArray⟩, v, c⟩, c + 1, ?_, ?_, ?_, ?_⟩, grow _⟩
    · have hset := run_setMap (P := Tryd.prog) hm
      simp [Instr.mapUpdate, go_sem, hgm, check9, Instr.findKey, f, hset]
    · intro y hy
      unfold kput at hy
      rw [a] at hy
      simp only [Bool.false_eq_true, if_false, List.mem_append, List.mem_singleton] at hy
      rcases hy with hy | rfl
      · exact g y hy
      · exact hg
    · simp [hl]
    · unfold kput
      rw [a]
      simp only [Bool.false_eq_true, if_false, Array.toList_push]
      exact KE.keep (keep _) (KE.append ⟨v, c, rfl, hv⟩ hr)
    · intro x hx
      simp only [Array.toList_push, List.mem_append, List.mem_singleton] at hx
      rcases hx with hx | rfl
      · have := hst.1 x hx; omega
      · exact Nat.lt_succ_self _
    · simp only [Array.toList_push, List.map_append, List.map_cons, List.map_nil]
      refine List.nodup_append.2 ⟨hst.2, by simp, fun a ha b hb => ?_⟩
      obtain ⟨x, hx, rfl⟩ := List.mem_map.1 ha
      rw [List.mem_singleton] at hb
      have := hst.1 x hx; omega
  · have hut : u = t := txt_inj (g u (List.mem_of_getElem? hj)).1 hg.1 hs
    subst hut
    obtain ⟨key, hkey⟩ : ∃ e, es[j]? = some e ∧ e.key = .string ⟨(txt u).toArray⟩ := by
      have : ∀ (es : List MapEntry) (ts : List Tm) (j : Nat), KE w D es ts → ts[j]? = some u → ∃ e, es[j]? = some e ∧ e.key = .string ⟨(txt u).toArray⟩ := by
        intro es
        induction es with
        | nil => intro ts j h hj; cases ts with
          | nil => simp at hj
          | cons _ _ => exact h.elim
        | cons e es ih => intro ts j h hj; cases ts with
          | nil => exact h.elim
          | cons t ts =>
            cases j with
            | zero =>
              simp only [List.getElem?_cons_zero, Option.some.injEq] at hj
              subst hj
              obtain ⟨⟨v, bo, h1, h2⟩, h3⟩ := h
              exact ⟨e, rfl, by rw [h1]⟩
            | succ j => exact ih ts j h.2 (by simpa using hj)
      obtain ⟨e, h1, h2⟩ := this es.toList ts j hr hj
      exact ⟨e, by simpa using h1, h2⟩
    refine ⟨{ w with heap := w.heap.setIfInBounds b (.map (es.modify j fun e => { e with key := .string ⟨(txt u).toArray⟩, val := v }) c) }, ?_, ⟨?_, es.modify j (fun e => { e with key := .string ⟨(txt u).toArray⟩, val := v }), c, ?_, ?_, ?_, ?_⟩, grow _⟩
    · have hset := run_setMap (P := Tryd.prog) hm
      have hst := stays_str ⟨(txt u).toArray⟩ w
      rw [Nat.zero_add] at f
      simp [Instr.mapUpdate, go_sem, hgm, check9, Instr.findKey, f, hset, hkey.1, hkey.2, hst]
    · unfold kput; rw [if_pos a]; exact g
    · simp [hl]
    · unfold kput; rw [if_pos a]
      have := KE.set hv j hr hj
      rw [Array.toList_modify]
      exact KE.keep (keep _) this
    · intro x hx
      rw [Array.toList_modify] at hx
      have : x.born ∈ (es.toList.modify j fun e => { e with key := .string ⟨(txt u).toArray⟩, val := v }).map (·.born) := List.mem_map_of_mem hx
      rw [map_modify_born] at this
      obtain ⟨y, hy, e⟩ := List.mem_map.1 this
      rw [← e]; exact hst.1 y hy
    · rw [Array.toList_modify, map_modify_born]; exact hst.2
section
variable {w : World} {ops : Array Oper} {rest : List Oper} {o : Oper} {a : Act} {Q : Exit → Act → World → Prop}
theorem wpList_look (hg : o.guard = none) (x y : Operand) (ok : Bool) (hop : o.op = .lookup 56 x y ok) {b : Nat} {s : ByteArray} {v : Value} (hx : a.eval x = .map (some b)) (hy : a.eval y = .string s)
    (hl : (Instr.lookup 56 (.map (some b)) (.string s) ok).run Tryd.prog w = .ok v w)
    (h : wpList Tryd.prog ops Q rest (a.put o.dst v) w) : wpList Tryd.prog ops Q (o :: rest) a w := by
  refine wpList_plain hg fun K' hK' => ?_
  unfold Oper.wp
  simp [execOp, hop, hx, hy, hl, Result.andThen]
  exact hK' _ _ h
theorem wpList_put (hg : o.guard = none) (x y z : Operand) (hop : o.op = .mapUpdate 56 x y z) (hd : o.dst = none) {b : Nat} {s : ByteArray} {v : Value} {w' : World} (hx : a.eval x = .map (some b)) (hy : a.eval y = .string s) (hz : a.eval z = v)
    (hl : (Instr.mapUpdate 56 (.map (some b)) (.string s) v).run Tryd.prog w = .ok () w')
    (h : wpList Tryd.prog ops Q rest a w') : wpList Tryd.prog ops Q (o :: rest) a w := by
  refine wpList_plain hg fun K' hK' => ?_
  unfold Oper.wp
  simp [execOp, hop, hx, hy, hz, hl, hd, Result.andThen, Act.put]
  refine hK' _ _ ?_
  rw [hd]; exact h
end
end Go.Proofs.YtfhpnkmhppfeiaaDoor
