/- All that is known, as a row; knowledge's can. knowledge's can. knowledge's apart. learn: what is known of some terms, and of what they come apart to. Its plain part. -/
import Derived.Test.YtfhpnkmhppfeiaaDoorA10
import Derived.Test.YtfhpnkmhppfeiaaDoorA12
import Derived.Test.YtfhpnkmhppfeiaaDoorA8
/- All that is known, as a row; knowledge's can. -/
set_option linter.unusedVariables false
set_option linter.unusedSimpArgs false
namespace Go.Proofs.YtfhpnkmhppfeiaaDoor
open Go.RowKit Go.Proofs Go.ChangeMaps
theorem perm_lift {α β : Type} {f : α → β} {l l' : List β} (h : l.Perm l') : ∀ ps : List α, l' = ps.map f → ∃ qs : List α, qs.Perm ps ∧ qs.map f = l := by
  induction h with
  | nil => intro ps e; exact ⟨ps, List.Perm.refl _, e.symm⟩
  | cons x _ ih =>
    intro ps e
    cases ps with
    | nil => cases e
    | cons p ps =>
      simp only [List.map_cons, List.cons.injEq] at e
      obtain ⟨qs, h1, h2⟩ := ih ps e.2
      exact ⟨p :: qs, h1.cons p, by simp [h2, e.1]⟩
  | swap x y l =>
    intro ps e
    match ps, e with
    | p :: q :: ps, e =>
      simp only [List.map_cons, List.cons.injEq] at e
      exact ⟨q :: p :: ps, List.Perm.swap _ _ _, by simp [e.1, e.2.1, e.2.2]⟩
  | trans _ _ ih1 ih2 =>
    intro ps e
    obtain ⟨qs, h1, h2⟩ := ih2 ps e
    obtain ⟨rs, h3, h4⟩ := ih1 qs h2.symm
    exact ⟨rs, h3.trans h1, h4⟩
theorem KE.pairs {w : World} {D : Nat → Prop} : ∀ {es : List MapEntry} {ts : List Tm}, KE w D es ts → ∃ ps : List (Value × Tm), es.map (·.val) = ps.map (·.1) ∧ ts = ps.map (·.2) ∧ ∀ p ∈ ps, TR w D p.2 p.1
  | [], [], _ => ⟨[], rfl, rfl, by simp⟩
  | e :: es, t :: ts, ⟨⟨v, bo, h1, h2⟩, h3⟩ => by
    obtain ⟨ps, a, b, c⟩ := KE.pairs h3
    refine ⟨(v, t) :: ps, by simp [h1, a], by simp [b], fun p hp => ?_⟩
    rcases List.mem_cons.1 hp with rfl | hp
    · exact h2
    · exact c p hp
/-- A row of values of terms that a call owns. -/
theorem ts_of_row {w : World} {D : Nat → Prop} {base : Nat} {v : Value} {ss : List Ent} {us : List Tm} (h : w.ownsRow base 25 3 v ss.length (ecs ss)) (hl : ss.length = us.length)
    (hr : ∀ (j : Nat) (x : Ent) (u : Tm), ss[j]? = some x → us[j]? = some u → TR w D u x.1) : TS w (fun k => D k ∨ base ≤ k) us v := by
  have hec : ∀ (ss : List Ent) (j : Nat) (x : Ent) (i : Nat), ss[j]? = some x → i < 3 → (ecs ss)[j * 3 + i]? = (ec x)[i]? := by
    intro ss
    induction ss with
    | nil => intro j x i h; simp at h
    | cons y r ih =>
      intro j x i h hi
      have e : ecs (y :: r) = ec y ++ ecs r := by simp [ecs]
      rw [e]
      cases j with
      | zero =>
        simp only [List.getElem?_cons_zero, Option.some.injEq] at h
        subst h
        rw [List.getElem?_append_left (by rw [ec_len]; omega)]; congr 1; omega
      | succ j =>
        rw [List.getElem?_append_right (by rw [ec_len]; omega), ec_len, show (j + 1) * 3 + i - 3 = j * 3 + i by omega]
        exact ih j x i (by simpa using h) hi
  rcases h.2 with ⟨rfl, hn⟩ | ⟨g, cap, cur, rfl, hb, hh, hc1, hc2, hcur, htake⟩
  · obtain rfl : us = [] := List.length_eq_zero_iff.1 (by omega)
    exact ⟨none, 0, fun _ => .bool false, rfl, Nat.le_refl _, by omega, fun h => by simp at h, fun j a ha => by simp at ha⟩
  · rw [hl] at hc1 ⊢
    refine ⟨some ⟨g, 0, none⟩, cap, fun j => ((ss[j]?).map (·.1)).getD undef, rfl, hc1, hc2, fun _ => ⟨g, 0, rfl, .inr hb, fun j hj => ?_⟩, fun j a ha => ?_⟩
    · obtain ⟨x, hx⟩ : ∃ x, ss[j]? = some x := ⟨_, List.getElem?_eq_getElem (by omega)⟩
      have hcs := fun i hi => hec ss j x i hx hi
      obtain ⟨xv, k, n, A, l, c, rfl⟩ := x
      have f := fun i u (hu : (ecs ss)[i]? = some u) => h.cells (g := g) rfl i u hu
      simp only [addr_add] at f
      refine ⟨.int .i64 k, .int .i64 n, .slice A l c, by simp [hx], ?_, ?_, ?_⟩
      · rw [Nat.zero_add]; exact f _ _ (by have := hcs 0 (by omega); simpa [ec] using this)
      · rw [Nat.zero_add]; exact f _ _ (by have := hcs 1 (by omega); simpa [ec] using this)
      · rw [Nat.zero_add]; exact f _ _ (by have := hcs 2 (by omega); simpa [ec] using this)
    · have hj := (List.getElem?_eq_some_iff.1 ha).1
      obtain ⟨x, hx⟩ : ∃ x, ss[j]? = some x := ⟨_, List.getElem?_eq_getElem (by omega)⟩
      simp only [hx, Option.map_some, Option.getD_some]
      exact (hr j x a hx ha).mono fun k hk _ => .inl hk
set_option maxRecDepth 100000 in
theorem values_any (b : Nat) (w : World) : Calls Tryd.prog 58 #[.map (some b)] w fun e w' => e = .returned (.func (.func 77) #[] #[.pointer (some ⟨w.heap.size, 0, none⟩)]) ∧ w' = w.alloc (.cells #[.map (some b)] 56) := by
  go_enter Tryd.func58, Tryd.ntmps58
  go_wp2
  go_ret
  exact ⟨rfl, rfl⟩
/-- All that is known, in some order. -/
theorem collect_any {D : Nat → Prop} {b Bm : Nat} {ts : List Tm} (w : World) (hk : KM w D b ts) (hl : ts.length ≤ 1000000000) (hm : w.cell? ⟨Bm, 0, none⟩ = some (.map (some b))) :
    Calls Tryd.prog 57 #[.func (.func 77) #[] #[.pointer (some ⟨Bm, 0, none⟩)]] w fun e w' => ∃ v us, e = .returned v ∧ us.Perm ts ∧ TS w' (fun k => D k ∨ w.heap.size ≤ k) us v ∧ Below w.heap.size w w' := by
  obtain ⟨hgood, es, c, hb, hr, hst, hnd⟩ := hk
  obtain ⟨ps, h1, h2, h3⟩ := hr.pairs
  have hsz : es.size = ts.length := by have := congrArg List.length h1; rw [h2]; simpa using this
  have hbl := (Array.getElem?_eq_some_iff.1 hb).1
  have hval : ∀ e ∈ es.toList, ∃ (k n : Int) (A : Option Addr) (l c : Nat), e.val = .agg #[.int .i64 k, .int .i64 n, .slice A l c] := by
    intro e he
    have : e.val ∈ es.toList.map (·.val) := List.mem_map_of_mem he
    rw [h1] at this
    obtain ⟨p, hp, e'⟩ := List.mem_map.1 this
    obtain ⟨A, c, hv⟩ := (h3 p hp).form3
    exact ⟨_, _, A, _, c, by rw [← e', hv]⟩
  have hseq : SeqGives Fence.wide (3 - 1 - 1) Tryd.prog 77 #[.pointer (some ⟨Bm, 0, none⟩)] (fun x : Ent => x.1) (fun xs => (xs.map (·.1)).Perm (es.toList.map (·.val))) es.size w := fun l J W hW hJ hY h0 =>
    values1_in (3 - 1 - 1) (by omega) l Bm b c es J hY W hJ ((hW.cell (World.block_lt_of_cell? w _ hm)).trans hm) ((hW.block b hbl).trans hb) hst hnd hval h0
  refine (callsIn_wide (n := 3)).1 ((collect_in 3 (by omega) 77 _ (enters_of Tryd.func77 (by kernel_rfl) rfl) _ es.size (by omega) w hseq).mono ?_)
  rintro e w' ⟨v, ss, rfl, hS, hrow, hbel⟩
  obtain ⟨qs, hq1, hq2⟩ := perm_lift hS ps h1
  have hlen : ss.length = qs.length := by have := congrArg List.length hq2; simpa using this.symm
  refine ⟨v, qs.map (·.2), rfl, by rw [h2]; exact hq1.map _, ts_of_row hrow (by simpa using hlen) fun j x u hx hu => ?_, hbel⟩
  obtain ⟨q, hq⟩ : ∃ q, qs[j]? = some q := ⟨_, List.getElem?_eq_getElem (by have := (List.getElem?_eq_some_iff.1 hx).1; omega)⟩
  have e1 : x.1 = q.1 := by
    have := congrArg (fun l => l[j]?) hq2
    simp [hx, hq] at this
    exact this.symm
  have e2 : u = q.2 := by
    simp [hq] at hu; exact hu.symm
  rw [e1, e2]
  exact (h3 q (hq1.subset (List.mem_of_getElem? hq))).bel hbel
end Go.Proofs.YtfhpnkmhppfeiaaDoor
/- knowledge's can. -/
set_option linter.unusedVariables false
set_option linter.unusedSimpArgs false
namespace Go.Proofs.YtfhpnkmhppfeiaaDoor
open Go.RowKit Go.Proofs
set_option maxRecDepth 100000 in
set_option maxHeartbeats 1000000 in
theorem can_any {D : Nat → Prop} {b : Nat} {ts : List Tm} (t : Tm) (v : Value) (w : World) (hK : KM w D b ts) (hf : form t = true) (hs : size t ≤ 2000) (hT : TR w Any t v) (hTab : Tab w) :
    Calls Tryd.prog 39 #[.map (some b), v] w fun e w' => e = .returned (.bool (canB ts t)) ∧ Below w.heap.size w w' := by
  obtain ⟨A, c, rfl⟩ := hT.form3
  have HT := Lib.hid hT
  have HTab := Lib.hid hTab
  have HF := Lib.hid hf
  have HS := Lib.hid hs
  have HK := Lib.hid hK.any
  have hmf : ∀ (fn : Fn) (first cap : Array Value) (w : World), (Instr.makeFunc fn first cap).run Tryd.prog w = .ok (.func fn first cap) w := fun _ _ _ _ => rfl
  have hsf : ∀ (w : World) (a : Addr) (f : Fn) (x y : Array Value), Sem.run Tryd.prog (store a (.func f x y)) w = stored Tryd.prog w a (.func f x y) .plain := fun w a f x y => run_store _ w a _ _ rfl
  clear hT hTab hf hs hK
  obtain ⟨W0, hW0⟩ : ∃ W0 : World, W0 = (w.alloc (.cells #[.map (some b)] 56)).alloc (.cells #[.int .i64 t.k, .int .i64 t.n, .slice A t.args.length c] 25) := ⟨_, rfl⟩
  have HB0 : Hid (Below w.heap.size w W0) := by rw [hW0]; exact balloc (bself w _) _
  have HS0 : Hid (W0.heap.size = w.heap.size + 2) := by rw [hW0]; unfold Hid; simp
  have HH := heap2 w (.cells #[.map (some b)] 56) (.cells #[.int .i64 t.k, .int .i64 t.n, .slice A t.args.length c] 25)
  rw [← hW0] at HH
  have HH0 := Lib.hid HH.1
  have HH1 := Lib.hid HH.2
  clear HH
  have hfo := forms_any W0
  rw [HS0.out] at hfo
  go_enter Tryd.func39, Tryd.ntmps39
  go_wp2_with fail
  rw [← hW0]
  clear hW0
  refine hfo.mono ?_
  rintro e W1 ⟨rfl, hF, hb⟩
  have HB1 : Hid (Below w.heap.size w W1) := bthen HB0.out (by rw [HS0.out]; exact hb)
  have HH0' := Lib.hid ((hb.block _ (by omega)).trans HH0.out)
  have HH1' := Lib.hid ((hb.block _ (by omega)).trans HH1.out)
  have HS1 : Hid (w.heap.size + 2 ≤ W1.heap.size) := by have := hb.size; rw [HS0.out] at this; exact this
  have HFM := Lib.hid hF
  clear hb hF hfo
  have c1 := (blk_cell HH1'.out 0).trans rfl
  have c2 := (blk_cell HH1'.out 1).trans rfl
  have c3 := (blk_cell HH1'.out 2).trans rfl
  have b1 : w.heap.size + 1 < W1.heap.size := by have := HS1.out; omega
  have b2 : w.heap.size + 1 < W1.heap.size + 1 := by omega
  have b3 : ¬ w.heap.size + 1 = W1.heap.size := by omega
  have b4 : ¬ w.heap.size + 1 = W1.heap.size + 1 := by omega
  go_wp2_with (go_at_call 60; refine (can1_any (bA := W1.heap.size) (bC := W1.heap.size + 1) (bK := w.heap.size) (bm := b) (m := w.heap.size + 2) (ts := ts) _ t _ _ (Nat.le_refl _) HF.out HS.out ?hT ?hE).mono ?hm; rotate_right; rintro e w3 ⟨rfl, hb3⟩)
  case hT => exact (HT.out.bel HB1.out).bel (balloc (bself W1 _) _)
  case hE =>
    have hbb := balloc (bself W1 (.cells #[.map (some (w.heap.size + 2))] 59)) (.cells #[.func (.func 60) #[] #[.pointer (some ⟨W1.heap.size, 0, none⟩), .pointer (some ⟨W1.heap.size + 1, 0, none⟩), .pointer (some ⟨w.heap.size, 0, none⟩)]] 84)
    exact ⟨(blk_cell (heap2 W1 _ _).1 0).trans rfl, (blk_cell (heap2 W1 _ _).2 0).trans rfl, (blk_cell ((hbb.block _ (by omega)).trans HH0'.out) 0).trans rfl, HFM.out.bel hbb, HK.out.bel (bthen HB1.out hbb), HTab.out.bel (bthen HB1.out hbb)⟩
  go_ret
  exact ⟨rfl, bthen HB1.out (bthen (balloc (bself W1 _) _) hb3)⟩
end Go.Proofs.YtfhpnkmhppfeiaaDoor
/- knowledge's apart. -/
set_option linter.unusedVariables false
set_option linter.unusedSimpArgs false
namespace Go.Proofs.YtfhpnkmhppfeiaaDoor
open Go.RowKit Go.Proofs
theorem TS.nil (w : World) (D : Nat → Prop) : TS w D [] (.slice none 0 0) := ⟨none, 0, fun _ => .bool false, rfl, Nat.le_refl _, by omega, fun h => by simp at h, fun j a ha => by simp at ha⟩
theorem TS.drop1 {w : World} {D : Nat → Prop} {x : Tm} {r : List Tm} {b o n c : Nat} (h : TS w D (x :: r) (.slice (some ⟨b, o, none⟩) n c)) : TS w D r (.slice (some ⟨b, o + 3, none⟩) r.length (c - 1)) := by
  obtain ⟨A, c', V, e, hl, hc, hA, hr⟩ := h
  cases e
  simp only [List.length_cons] at hl hc
  refine ⟨some ⟨b, o + 3, none⟩, c - 1, fun j => V (j + 1), rfl, by omega, by omega, fun hlt => ?_, fun j a ha => hr (j + 1) a (by simpa using ha)⟩
  obtain ⟨b', o', e, hD, hrow⟩ := hA (by simp)
  cases e
  refine ⟨b, o + 3, rfl, hD, fun j hj => ?_⟩
  have := hrow (j + 1) (by simp; omega)
  rwa [show o + (j + 1) * 3 = o + 3 + j * 3 by omega] at this
theorem two_args {k n : Int} {args : List Tm} (h : form (.mk k n args) = true) (h1 : 4 ≤ k) (h2 : k ≤ 8) : ∃ x y, args = [x, y] := by
  have := (headOK_iff.1 (form_head h).1).2.1
  rw [ar2 h1 h2] at this
  match args, this with
  | [x, y], _ => exact ⟨x, y, rfl⟩
set_option maxRecDepth 100000 in
set_option maxHeartbeats 2000000 in
theorem apart_any {D Dm : Nat → Prop} {b : Nat} {ts : List Tm} (t : Tm) (v : Value) (w : World) (hK : KM w Dm b ts) (hf : form t = true) (hs : size t ≤ 2000) (hT : TR w D t v) (hTab : Tab w) :
    Calls Tryd.prog 59 #[.map (some b), v] w fun e w' => ∃ v', e = .returned v' ∧ TS w' D (apartT ts t) v' ∧ Below w.heap.size w w' := by
  obtain ⟨k, n, args⟩ := t
  obtain ⟨s, rfl, hk, hn, hS⟩ := hT.inv
  obtain ⟨A, c, rfl, hc1, hc2⟩ := hS.form
  have HS := Lib.hid hS
  have HTab := Lib.hid hTab
  have HF := Lib.hid hf
  have HSZ := Lib.hid hs
  have HK := Lib.hid hK
  clear hS hTab hf hs hK hT
  by_cases h7 : k = 7
  · subst h7
    go_enter Tryd.func59, Tryd.ntmps59
    go_wp2_with fail
    refine bodyPost_ret (v := .slice A args.length c) (by simp [results, Tryd.results59, go_sem]) rfl ⟨_, rfl, ?_, bself _ _⟩
    exact HS.out.bel (bself _ _)
  have e7 : (k == 7) = false := by rw [beq_eq_false_iff_ne]; exact h7
  by_cases h5 : k = 5
  · subst h5
    obtain ⟨x, y, rfl⟩ := two_args HF.out (by omega) (by omega)
    obtain ⟨bb, o, A', c', rfl, _⟩ := HS.out.at_ (j := 0) rfl
    have HD := Lib.hid (HS.out.drop1)
    simp only [List.length_cons, List.length_nil] at hc1
    go_enter Tryd.func59, Tryd.ntmps59
    go_wp2_with fail
    refine bodyPost_ret (v := .slice (some ⟨bb, o + 3, none⟩) 1 (c - 1)) (by simp [results, Tryd.results59, go_sem]) rfl ⟨_, rfl, ?_, bself _ _⟩
    exact HD.out.bel (bself _ _)
  have e5 : (k == 5) = false := by rw [beq_eq_false_iff_ne]; exact h5
  by_cases h4 : k = 4
  · subst h4
    obtain ⟨x, y, rfl⟩ := two_args HF.out (by omega) (by omega)
    obtain ⟨bb, o, A', c', rfl, _, hbs, c0, c1, c2, hTx⟩ := HS.out.at_ (j := 0) rfl
    have HD := Lib.hid (HS.out.drop1)
    simp only [List.length_cons, List.length_nil, Nat.zero_mul, Nat.add_zero] at hc1 c0 c1 c2
    have hcan := can_any x _ (w.alloc (.cells #[.int .i64 4, .int .i64 n, .slice (some ⟨bb, o, none⟩) 2 c] 25)) (HK.out.bel (bself w _)) (form_mem HF.out (by simp)) (by have := size_mem (a := x) (l := [x, y]) (by simp); have := HSZ.out; simp only [size] at this; omega) ((hTx.bel (bself w _)).any) (HTab.out.bel (bself w _))
    have hap : apartT ts (.mk 4 n [x, y]) = if canB ts x = true then [y] else [] := by simp [apartT, apartK]
    rw [hap]
    clear hap hTx
    have HB0 : Hid (Below w.heap.size w (w.alloc (.cells #[.int .i64 4, .int .i64 n, .slice (some ⟨bb, o, none⟩) 2 c] 25))) := bself w _
    cases hc : canB ts x with
    | true =>
      rw [hc] at hcan
      have d0 := heap_alloc_new w (.cells #[.int .i64 4, .int .i64 n, .slice (some ⟨bb, o, none⟩) 2 c] 25)
      go_enter Tryd.func59, Tryd.ntmps59
      go_wp2_with (go_at_call 39; refine hcan.mono ?_; rintro e w2 ⟨rfl, hb⟩; have HB := Lib.hid hb; obtain ⟨r0, r1, r2, _, _, _⟩ := cell3_load ((hb.block w.heap.size (by simp)).trans d0); clear hb)
      refine bodyPost_ret (v := .slice (some ⟨bb, o + 3, none⟩) 1 (c - 1)) (by simp [results, Tryd.results59, go_sem]) rfl ⟨_, rfl, ?_, bthen HB0.out HB.out⟩
      exact HD.out.bel (bthen HB0.out HB.out)
    | false =>
      rw [hc] at hcan
      go_enter Tryd.func59, Tryd.ntmps59
      go_wp2_with (go_at_call 39; refine hcan.mono ?_; rintro e w2 ⟨rfl, hb⟩; have HB := Lib.hid hb; clear hb)
      refine bodyPost_ret (v := .slice none 0 0) (by simp [results, Tryd.results59, go_sem]) rfl ⟨_, rfl, ?_, bthen HB0.out HB.out⟩
      exact TS.nil _ _
  · have e4 : (k == 4) = false := by rw [beq_eq_false_iff_ne]; exact h4
    have hap : apartT ts (.mk k n args) = [] := by simp [apartT, apartK, h7, h5, h4]
    rw [hap]
    clear hap h7 h5 h4
    go_enter Tryd.func59, Tryd.ntmps59
    go_wp2_with fail
    refine bodyPost_ret (v := .slice none 0 0) (by simp [results, Tryd.results59, go_sem]) rfl ⟨_, rfl, TS.nil _ _, bself _ _⟩
end Go.Proofs.YtfhpnkmhppfeiaaDoor
/- learn: what is known of some terms, and of what they come apart to. Its plain part. -/
set_option linter.unusedVariables false
namespace Go.Proofs.YtfhpnkmhppfeiaaDoor
theorem nodup_len {α : Type} : ∀ (l l' : List α), l.Nodup → (∀ x ∈ l, x ∈ l') → l.length ≤ l'.length
  | [], _, _, _ => Nat.zero_le _
  | x :: r, l', hn, hs => by
    obtain ⟨s, t, rfl⟩ := List.append_of_mem (hs x (by simp))
    obtain ⟨hx, hr⟩ := List.nodup_cons.1 hn
    have := nodup_len r (s ++ t) hr fun y hy => by
      have := hs y (by simp [hy])
      simp only [List.mem_append, List.mem_cons] at this ⊢
      rcases this with h | rfl | h
      · exact .inl h
      · exact absurd hy hx
      · exact .inr h
    simp at this ⊢; omega
theorem subs_len (t : Tm) : (subs t).length = size t := by
  apply Tm.rec (motive_1 := fun t => (subs t).length = size t) (motive_2 := fun l => (subsL l).length = sizeL l)
  · intro k n args ih; simp only [subs, size, List.length_cons, ih]; omega
  · rfl
  · intro a r i1 i2; simp only [subsL, sizeL, List.length_append, i1, i2]
/-- All that stands below known terms. -/
def univ (L : List Tm) : List Tm := L.flatMap fun t => subs (ord t)
theorem univ_len {L : List Tm} (h : mayL L = true) : (univ L).length ≤ 1000000 := by
  obtain ⟨h1, h2⟩ := mayL_iff.1 h
  have key : ∀ l : List Tm, (∀ t ∈ l, may t = true) → (univ l).length ≤ l.length * 2000 := by
    intro l
    induction l with
    | nil => intro _; simp [univ]
    | cons a r ih =>
      intro hl
      have ha := ((may_iff a).1 (hl a (by simp))).2
      have := ih fun t ht => hl t (by simp [ht])
      simp only [univ, List.flatMap_cons, List.length_append, subs_len, size_ord, List.length_cons] at this ⊢
      omega
  have := key L h2
  omega
/-- Learnt in part. -/
structure Part (L ts : List Tm) : Prop where
  good : ∀ t ∈ ts, good t
  know : ∀ t ∈ ts, Know L t
  nodup : ts.Nodup
theorem Part.nil (L : List Tm) : Part L [] := ⟨fun _ h => by simp at h, fun _ h => by simp at h, List.nodup_nil⟩
theorem Part.len {L ts : List Tm} (h : Part L ts) : ts.length ≤ (univ L).length := nodup_len _ _ h.nodup fun t ht => by
  obtain ⟨u, hu, hs⟩ := (h.know t ht).sub
  exact List.mem_flatMap.2 ⟨u, hu, hs⟩
theorem Part.put {L ts : List Tm} (h : Part L ts) {a : Tm} (hg : Go.Proofs.YtfhpnkmhppfeiaaDoor.good a) (hk : Know L a) : Part L (kput ts a) := by
  unfold kput
  split
  · exact h
  · rename_i hh
    refine ⟨fun t ht => ?_, fun t ht => ?_, ?_⟩
    · rcases List.mem_append.1 ht with ht | ht
      · exact h.good t ht
      · rw [List.mem_singleton] at ht; exact ht ▸ hg
    · rcases List.mem_append.1 ht with ht | ht
      · exact h.know t ht
      · rw [List.mem_singleton] at ht; exact ht ▸ hk
    · refine List.nodup_append.2 ⟨h.nodup, by simp, fun x hx y hy e => ?_⟩
      rw [List.mem_singleton] at hy
      subst hy e
      exact hh ((hasT_iff (fun t ht => (h.good t ht).1) hg.1).2 hx)
theorem kput_old {ts : List Tm} {a t : Tm} (h : t ∈ ts) : t ∈ kput ts a := by unfold kput; split; exact h; exact List.mem_append_left _ h
theorem kput_new {ts : List Tm} (hf : ∀ t ∈ ts, form t = true) {a : Tm} (ha : form a = true) : a ∈ kput ts a := by
  unfold kput
  split
  · rename_i h; exact (hasT_iff hf ha).1 h
  · simp
end Go.Proofs.YtfhpnkmhppfeiaaDoor
