/- The library's slices.Sorted(maps.Keys(m)) at this program (the layings: the shelf's own command in its plain mode), and what it gives for what is known. -/
import Derived.Shelf.SlIter.Nil
import Derived.Shelf.SortM.Plain
import Derived.Shelf.SortM.SortNone
import Derived.Ground.GgzProg
import Derived.Ground.SlgmProg
import Derived.Sort.KeysCollected
import Derived.Sort.Walk0
import Derived.Test.YtfhpnkmhppfeiaaDoorA21
set_option linter.unusedVariables false
set_option linter.unusedSimpArgs false
namespace Go.Proofs
open Go.Shelf
def Tryd.keys44_ren : Go.Shelf.Ren := ⟨fun | 7 => 44 | 10 => 69 | n => n, fun | 23 => 56 | 26 => 9 | 3 => 25 | 28 => 67 | 0 => 0 | 27 => 66 | 33 => 94 | 4 => 4 | n => n, fun | n => n⟩
theorem Tryd.keys44 : Go.Proofs.SlLaysZ.n7 Tryd.prog Tryd.keys44_ren := {
  mixed := by kernel_rfl
  f7 := ⟨Tryd.f44.name, by decide, Tryd.func44.trans (congrArg some (by kernel_rfl))⟩
  f10 := ⟨Tryd.f69.name, by decide, Tryd.func69.trans (congrArg some (by kernel_rfl))⟩
  t0 := Tryd.underlying0
  a0 := Tryd.isAgg0
  z0 := Tryd.sizeOf0
  v0 := Tryd.zeroValue0
  t4 := Tryd.underlying4
  a4 := Tryd.isAgg4
  z4 := Tryd.sizeOf4
  v4 := Tryd.zeroValue4
  t23 := Tryd.underlying56
  a23 := Tryd.isAgg56
  z23 := Tryd.sizeOf56
  v23 := Tryd.zeroValue56
  t26 := Tryd.underlying9
  a26 := Tryd.isAgg9
  z26 := Tryd.sizeOf9
  v26 := Tryd.zeroValue9
  t27 := Tryd.underlying66
  a27 := Tryd.isAgg66
  z27 := Tryd.sizeOf66
  v27 := Tryd.zeroValue66
  t28 := Tryd.underlying67
  a28 := Tryd.isAgg67
  z28 := Tryd.sizeOf67
  v28 := Tryd.zeroValue67
  t33 := Tryd.underlying94
  a33 := Tryd.isAgg94
  z33 := Tryd.sizeOf94
  v33 := Tryd.zeroValue94 }
def Tryd.sorted43_ren : Go.Shelf.Ren := ⟨fun | 6 => 43 | 8 => 67 | 9 => 68 | 11 => 82 | 13 => 84 | 12 => 83 | 23 => 100 | 24 => 101 | 14 => 91 | 15 => 92 | 16 => 93 | 17 => 94 | 18 => 95 | 19 => 96 | 20 => 97 | 21 => 98 | 22 => 99 | 25 => 114 | 26 => 115 | 27 => 116 | 28 => 117 | 29 => 118 | 30 => 119 | 31 => 127 | n => n, fun | 26 => 9 | 28 => 67 | 24 => 64 | 0 => 0 | 3 => 3 | 37 => 119 | 48 => 133 | 50 => 103 | 4 => 4 | 40 => 125 | 39 => 124 | 45 => 130 | 5 => 5 | 9 => 9 | 51 => 148 | 55 => 76 | 57 => 163 | 58 => 164 | 33 => 94 | n => n, fun | n => n⟩
theorem Tryd.sorted43 : Go.Proofs.SlLaysZ.n6 Tryd.prog Tryd.sorted43_ren := {
  mixed := by kernel_rfl
  f6 := ⟨Tryd.f43.name, by decide, Tryd.func43.trans (congrArg some (by kernel_rfl))⟩
  f8 := ⟨Tryd.f67.name, by decide, Tryd.func67.trans (congrArg some (by kernel_rfl))⟩
  f11 := ⟨Tryd.f82.name, by decide, Tryd.func82.trans (congrArg some (by kernel_rfl))⟩
  t0 := Tryd.underlying0
  a0 := Tryd.isAgg0
  z0 := Tryd.sizeOf0
  v0 := Tryd.zeroValue0
  t24 := Tryd.underlying64
  a24 := Tryd.isAgg64
  z24 := Tryd.sizeOf64
  v24 := Tryd.zeroValue64
  t26 := Tryd.underlying9
  a26 := Tryd.isAgg9
  z26 := Tryd.sizeOf9
  v26 := Tryd.zeroValue9
  t28 := Tryd.underlying67
  a28 := Tryd.isAgg67
  z28 := Tryd.sizeOf67
  v28 := Tryd.zeroValue67
  i26 := by kernel_rfl }
def Tryd.sort68_ren : Go.Shelf.Ren := ⟨fun | 6 => 68 | 8 => 84 | 9 => 83 | 19 => 100 | 20 => 101 | 21 => 91 | 22 => 92 | 23 => 93 | 24 => 94 | 25 => 95 | 26 => 96 | 27 => 97 | 28 => 98 | 29 => 99 | 36 => 114 | 31 => 115 | 32 => 116 | 37 => 117 | 38 => 118 | 39 => 119 | 41 => 127 | n => n, fun | 27 => 64 | 29 => 9 | 3 => 3 | 32 => 119 | 26 => 64 | 0 => 0 | 44 => 133 | 46 => 103 | 4 => 4 | 36 => 125 | 35 => 124 | 41 => 130 | 5 => 5 | 9 => 9 | 53 => 148 | 57 => 76 | 63 => 163 | 64 => 164 | n => n, fun | n => n⟩
theorem Tryd.sort68 : Go.Proofs.SlLaysM.n6 Tryd.prog Tryd.sort68_ren := {
  mixed := by kernel_rfl
  f6 := ⟨Tryd.f68.name, by decide, Tryd.func68.trans (congrArg some (by kernel_rfl))⟩
  f8 := Tryd.func84.trans (congrArg some (by kernel_rfl))
  f9 := ⟨Tryd.f83.name, by decide, Tryd.func83.trans (congrArg some (by kernel_rfl))⟩
  f19 := Tryd.func100.trans (congrArg some (by kernel_rfl))
  f20 := Tryd.func101.trans (congrArg some (by kernel_rfl))
  f21 := ⟨Tryd.f91.name, by decide, Tryd.func91.trans (congrArg some (by kernel_rfl))⟩
  f22 := ⟨Tryd.f92.name, by decide, Tryd.func92.trans (congrArg some (by kernel_rfl))⟩
  f23 := ⟨Tryd.f93.name, by decide, Tryd.func93.trans (congrArg some (by kernel_rfl))⟩
  f24 := ⟨Tryd.f94.name, by decide, Tryd.func94.trans (congrArg some (by kernel_rfl))⟩
  f25 := ⟨Tryd.f95.name, by decide, Tryd.func95.trans (congrArg some (by kernel_rfl))⟩
  f26 := ⟨Tryd.f96.name, by decide, Tryd.func96.trans (congrArg some (by kernel_rfl))⟩
  f27 := ⟨Tryd.f97.name, by decide, Tryd.func97.trans (congrArg some (by kernel_rfl))⟩
  f28 := ⟨Tryd.f98.name, by decide, Tryd.func98.trans (congrArg some (by kernel_rfl))⟩
  f29 := ⟨Tryd.f99.name, by decide, Tryd.func99.trans (congrArg some (by kernel_rfl))⟩
  f31 := Tryd.func115.trans (congrArg some (by kernel_rfl))
  f32 := Tryd.func116.trans (congrArg some (by kernel_rfl))
  f36 := ⟨Tryd.f114.name, by decide, Tryd.func114.trans (congrArg some (by kernel_rfl))⟩
  f37 := ⟨Tryd.f117.name, by decide, Tryd.func117.trans (congrArg some (by kernel_rfl))⟩
  f38 := ⟨Tryd.f118.name, by decide, Tryd.func118.trans (congrArg some (by kernel_rfl))⟩
  f39 := ⟨Tryd.f119.name, by decide, Tryd.func119.trans (congrArg some (by kernel_rfl))⟩
  f41 := ⟨Tryd.f127.name, by decide, Tryd.func127.trans (congrArg some (by kernel_rfl))⟩
  t0 := Tryd.underlying0
  a0 := Tryd.isAgg0
  z0 := Tryd.sizeOf0
  v0 := Tryd.zeroValue0
  t3 := Tryd.underlying3
  a3 := Tryd.isAgg3
  z3 := Tryd.sizeOf3
  v3 := Tryd.zeroValue3
  t4 := Tryd.underlying4
  a4 := Tryd.isAgg4
  z4 := Tryd.sizeOf4
  v4 := Tryd.zeroValue4
  t5 := Tryd.underlying5
  a5 := Tryd.isAgg5
  z5 := Tryd.sizeOf5
  v5 := Tryd.zeroValue5
  t9 := Tryd.underlying9
  a9 := Tryd.isAgg9
  z9 := Tryd.sizeOf9
  v9 := Tryd.zeroValue9
  t26 := Tryd.underlying64
  a26 := Tryd.isAgg64
  z26 := Tryd.sizeOf64
  v26 := Tryd.zeroValue64
  t27 := Tryd.underlying64
  a27 := Tryd.isAgg64
  z27 := Tryd.sizeOf64
  v27 := Tryd.zeroValue64
  t29 := Tryd.underlying9
  a29 := Tryd.isAgg9
  z29 := Tryd.sizeOf9
  v29 := Tryd.zeroValue9
  t32 := Tryd.underlying119
  a32 := Tryd.isAgg119
  z32 := Tryd.sizeOf119
  v32 := Tryd.zeroValue119
  t35 := Tryd.underlying124
  a35 := Tryd.isAgg124
  z35 := Tryd.sizeOf124
  v35 := Tryd.zeroValue124
  t36 := Tryd.underlying125
  a36 := Tryd.isAgg125
  z36 := Tryd.sizeOf125
  v36 := Tryd.zeroValue125
  t41 := Tryd.underlying130
  a41 := Tryd.isAgg130
  z41 := Tryd.sizeOf130
  v41 := Tryd.zeroValue130
  t44 := Tryd.underlying133
  a44 := Tryd.isAgg133
  z44 := Tryd.sizeOf133
  v44 := Tryd.zeroValue133
  t46 := Tryd.underlying103
  a46 := Tryd.isAgg103
  z46 := Tryd.sizeOf103
  v46 := Tryd.zeroValue103
  t53 := Tryd.underlying148
  a53 := Tryd.isAgg148
  z53 := Tryd.sizeOf148
  v53 := Tryd.zeroValue148
  t57 := Tryd.underlying76
  a57 := Tryd.isAgg76
  z57 := Tryd.sizeOf76
  v57 := Tryd.zeroValue76
  t63 := Tryd.underlying163
  a63 := Tryd.isAgg163
  z63 := Tryd.sizeOf163
  v63 := Tryd.zeroValue163
  t64 := Tryd.underlying164
  a64 := Tryd.isAgg164
  z64 := Tryd.sizeOf164
  v64 := Tryd.zeroValue164 }
end Go.Proofs
namespace Go.Proofs
open Go.RowKit Go.Maps Go.Sort Go.Shelf
theorem Tryd.sorts43 (m : Nat) : AnyZ.SortsIn Tryd.prog Tryd.sorted43_ren Fence.wide m :=
  ⟨fun blk off cap ss W hH hblk hsz => callsIn_wide.2 (AnyM.slices_Sort_string Tryd.sort68 blk off cap ss W hH hblk hsz),
   fun p cap W => callsIn_wide.2 (AnyM.slices_Sort_string_none Tryd.sort68 p cap W)⟩
theorem Tryd.maps_Keys_44 (mb : Option Nat) (W : World) : CallsIn Fence.wide 5 Tryd.prog 44 #[.map mb] W fun e w' => e = .returned (.func (.func 69) #[] #[.pointer (some ⟨W.heap.size, 0, none⟩)]) ∧ w' = W.alloc (.cells #[.map mb] 56) :=
  AnyZ.keys_in Tryd.keys44 Fence.wide 5 trivial rfl mb W
set_option maxHeartbeats 1000000 in
theorem Tryd.slices_Sorted_keys_43_44 {H : Type} (b nn : Nat) (D0 : DataW H) (R : Value → Option (DataW H × List MemPlace)) (w : World) (hown : w.ownsMap Tryd.prog 9 R b nn D0) (hmax : Maps.size D0 ≤ maxLen) (hbytes : Maps.size D0 * 16 ≤ 140737488355328) :
    CallsIn Fence.wide 5 Tryd.prog 43 #[.func (.func 69) #[] #[.pointer (some ⟨w.heap.size, 0, none⟩)]] (w.alloc (.cells #[.map (some b)] 56)) fun e w' => ∃ (v : Value) (ss : List (List UInt8)), e = .returned v ∧ ss.Perm (strKeys D0) ∧
      w'.ownsRow (w.alloc (.cells #[.map (some b)] 56)).heap.size 9 1 v ss.length ((ss.mergeSort (fun x y => decide (x ≤ y))).map encStr) ∧ (v = .slice none 0 0 ↔ ss = []) ∧ Below (w.alloc (.cells #[.map (some b)] 56)).heap.size (w.alloc (.cells #[.map (some b)] 56)) w' := by
  have hbl := hown.lt
  have hseq : SeqGives Fence.wide 2 Tryd.prog 69 #[.pointer (some ⟨w.heap.size, 0, none⟩)] encStr (fun ss => ss.Perm (strKeys D0)) (Maps.size D0) (w.alloc (.cells #[.map (some b)] 56)) :=
    AnyZ.keys_gives (ρ := Tryd.keys44_ren) { Tryd.keys44 with } Fence.wide _ trivial rfl (by omega) w.heap.size b nn D0 _ (by simp) (by simp) (by
      obtain ⟨es, clock, hb, Ft, hs, hD⟩ := hown
      exact ⟨es, clock, (Below.heap_alloc _ _ b hbl).trans hb, Ft, hs, hD⟩)
  exact AnyZ.sorted_in Tryd.sorted43 Fence.wide 5 trivial trivial trivial trivial rfl (by omega) (Tryd.sorts43 _) (enters_of Tryd.func68 (by kernel_rfl) rfl) 69 #[.pointer (some ⟨w.heap.size, 0, none⟩)] trivial (enters_of Tryd.func69 (by kernel_rfl) rfl) _ _ hmax hbytes _ hseq
end Go.Proofs
namespace Go.Proofs.YtfhpnkmhppfeiaaDoor
open Go.RowKit Go.Proofs
theorem KE.read {w : World} {D : Nat → Prop} : ∀ {es : List MapEntry} {ts : List Tm}, KE w D es ts → (∀ t ∈ ts, good t) →
    (∀ x ∈ es, ∃ t ∈ ts, Go.WideElems.rd (H := Unit) Tryd.prog 9 (fun _ => some (.nil, [])) x = some (.string (txt t), .nil) ∧ x.key = .string ⟨(txt t).toArray⟩) ∧
    es.map (fun x => strOf (Go.WideElems.rg (H := Unit) Tryd.prog 9 (fun _ => some (.nil, [])) x).1) = ts.map txt ∧ es.map (·.key) = ts.map fun t => .string ⟨(txt t).toArray⟩
  | [], [], _, _ => ⟨fun x h => by simp at h, rfl, rfl⟩
  | e :: es, t :: ts, ⟨⟨v, bo, h1, h2⟩, h3⟩, hg => by
    obtain ⟨i1, i2, i3⟩ := KE.read h3 fun t ht => hg t (by simp [ht])
    have hgt := hg t (by simp)
    have hlen := txt_short h2.rng hgt.2.1
    have hk : keyOf Tryd.prog 9 (.string ⟨(txt t).toArray⟩) = some (.string (txt t)) := Go.WideMaps.keyOf_string_mk Tryd.underlying9 (by simp [ByteArray.size, maxLen]; omega)
    have hrd : Go.WideElems.rd (H := Unit) Tryd.prog 9 (fun _ => some (.nil, [])) e = some (.string (txt t), .nil) := by
      subst h1; exact Go.WideElems.rd_mk (R := fun _ => some (DataW.nil, [])) hk rfl
    refine ⟨fun x hx => ?_, ?_, ?_⟩
    · rcases List.mem_cons.1 hx with rfl | hx
      · exact ⟨t, by simp, hrd, by rw [h1]⟩
      · obtain ⟨u, hu, h⟩ := i1 x hx
        exact ⟨u, by simp [hu], h⟩
    · rw [List.map_cons, List.map_cons, i2, Go.WideElems.rg_of hrd]; rfl
    · rw [List.map_cons, List.map_cons, i3, h1]
theorem perm_read {l : List MapEntry} {G : MapEntry → Lit × DataW Unit} {zs : List Bs} (h : l.map (fun x => strOf (G x).1) = zs) : (strKeys (.map ((l.map G).foldr DataW.insert []))).Perm zs := by
  have := (Go.WideShapes.sorted_perm (l.map G)).map fun (p : Lit × DataW Unit) => strOf p.1
  show (List.map (fun (p : Lit × DataW Unit) => strOf p.1) _).Perm _
  refine this.trans ?_
  rw [← h, List.map_map]
  exact .refl _
/-- The map as the library's contracts want it. -/
theorem KM.own {w : World} {D : Nat → Prop} {b : Nat} {ts : List Tm} (h : KM w D b ts) (hn : ts.Nodup) (hlen : ts.length ≤ 1000000) :
    ∃ D0 : DataW Unit, w.ownsMap Tryd.prog 9 (fun _ => some (.nil, [])) b ts.length D0 ∧ (strKeys D0).Perm (ts.map txt) := by
  obtain ⟨hg, es, c, hb, hke, hborn, hnd⟩ := h
  obtain ⟨r1, r2, r3⟩ := KE.read hke hg
  have hl : es.size = ts.length := by have := congrArg List.length r2; simpa using this
  refine ⟨.map ((es.toList.map (Go.WideElems.rg Tryd.prog 9 (fun _ => some (.nil, [])))).foldr DataW.insert []), ⟨es, c, hb, ⟨by rw [hl]; unfold maxLen; omega, ⟨hborn, hnd, ?_⟩, fun x hx => ?_⟩, by omega, rfl⟩, ?_⟩
  · rw [r3]
    refine List.pairwise_map.2 (hn.imp_of_mem fun {a b} ha hb hne e => hne ?_)
    have e : (txt a).toArray = (txt b).toArray := congrArg ByteArray.data (Value.string.inj e)
    exact txt_inj (hg a ha).1 (hg b hb).1 (by simpa using e)
  · obtain ⟨t, _, h, _⟩ := r1 x hx
    exact ⟨_, h⟩
  · exact perm_read r2
/-- Terms whose texts rise. -/
def Rising (us : List Tm) : Prop := ∀ i x y, us[i]? = some x → us[i + 1]? = some y → Op.bytesLess (txt x) (txt y) = true
/-- What the sorted keys are of. -/
theorem sorted_terms {ts : List Tm} (hg : ∀ t ∈ ts, form t = true) (hn : ts.Nodup) {ss : List Bs} (hp : ss.Perm (ts.map txt)) :
    ∃ us : List Tm, us.Perm ts ∧ Rising us ∧ ss.mergeSort (fun x y => decide (x ≤ y)) = us.map txt := by
  have tr : ∀ a b c : Bs, decide (a ≤ b) = true → decide (b ≤ c) = true → decide (a ≤ c) = true := fun a b c h1 h2 => by simp only [decide_eq_true_eq] at *; exact List.le_trans h1 h2
  have to : ∀ a b : Bs, (decide (a ≤ b) || decide (b ≤ a)) = true := fun a b => by simp only [Bool.or_eq_true, decide_eq_true_eq]; exact List.le_total a b
  have hs := (List.mergeSort_perm ss fun x y => decide (x ≤ y)).trans hp
  have hpw := List.pairwise_mergeSort tr to ss
  generalize ss.mergeSort (fun x y => decide (x ≤ y)) = zs at hs hpw
  -- a permutation of an image is the image of a permutation
  have key : ∀ (zs : List Bs) (ts : List Tm), zs.Perm (ts.map txt) → ∃ us : List Tm, us.Perm ts ∧ zs = us.map txt := by
    intro zs
    induction zs with
    | nil =>
      intro ts h
      have : ts = [] := by have := h.length_eq; simp at this; exact List.length_eq_zero_iff.1 this.symm
      subst this; exact ⟨[], .refl _, rfl⟩
    | cons z zs ih =>
      intro ts h
      have hz : z ∈ ts.map txt := h.subset (by simp)
      obtain ⟨t, ht, rfl⟩ := List.mem_map.1 hz
      obtain ⟨l1, l2, rfl⟩ := List.append_of_mem ht
      have h1 : (txt t :: zs).Perm (txt t :: (l1 ++ l2).map txt) := h.trans (by
        rw [List.map_append, List.map_cons, List.map_append]
        exact List.perm_middle)
      obtain ⟨us, hu1, hu2⟩ := ih (l1 ++ l2) h1.cons_inv
      exact ⟨t :: us, (hu1.cons t).trans List.perm_middle.symm, by rw [List.map_cons, hu2]⟩
  obtain ⟨us, hu1, hu2⟩ := key zs ts hs
  refine ⟨us, hu1, fun i x y hx hy => ?_, hu2⟩
  have hi : i + 1 < us.length := (List.getElem?_eq_some_iff.1 hy).1
  have hxm := List.mem_of_getElem? hx
  have hym := List.mem_of_getElem? hy
  rw [Go.Proofs.bytesLess_eq, decide_eq_true_eq]
  have hle : txt x ≤ txt y := by
    rw [hu2, List.pairwise_map] at hpw
    have := List.pairwise_iff_getElem.1 hpw i (i + 1) (by omega) hi (by omega)
    rw [(List.getElem?_eq_some_iff.1 hx).2, (List.getElem?_eq_some_iff.1 hy).2, decide_eq_true_eq] at this
    exact this
  have hne : txt x ≠ txt y := fun e => by
    have e2 := txt_inj (hg x (hu1.subset hxm)) (hg y (hu1.subset hym)) e
    have hnd : us.Nodup := hu1.nodup_iff.2 hn
    have := (List.getElem?_inj (by omega) hnd).1 (hx.trans (e2 ▸ hy.symm))
    omega
  by_cases h : txt x < txt y
  · exact h
  · exact absurd (List.le_antisymm hle h) hne
theorem keys_any (b : Nat) (w : World) : Calls Tryd.prog 44 #[.map (some b)] w fun e w' => e = .returned (.func (.func 69) #[] #[.pointer (some ⟨w.heap.size, 0, none⟩)]) ∧ w' = w.alloc (.cells #[.map (some b)] 56) :=
  callsIn_wide.1 (Tryd.maps_Keys_44 (some b) w)
/-- slices.Sorted at maps.Keys of what is known. -/
theorem sorted_any {D : Nat → Prop} {b : Nat} {ts : List Tm} (w : World) (hK : KM w D b ts) (hn : ts.Nodup) (hlen : ts.length ≤ 1000000) :
    Calls Tryd.prog 43 #[.func (.func 69) #[] #[.pointer (some ⟨w.heap.size, 0, none⟩)]] (w.alloc (.cells #[.map (some b)] 56)) fun e w' => ∃ (v : Value) (us : List Tm), e = .returned v ∧ us.Perm ts ∧ Rising us ∧
      w'.ownsRow (w.heap.size + 1) 9 1 v us.length (strs (us.map txt)) ∧ Below w.heap.size w w' := by
  obtain ⟨D0, hown, hp⟩ := hK.own hn hlen
  have hs := hown.size_le
  refine (callsIn_wide.1 (Tryd.slices_Sorted_keys_43_44 b _ D0 _ w hown (by unfold maxLen; omega) (by omega))).mono ?_
  rintro e w' ⟨v, ss, rfl, hss, hrow, _, hb⟩
  obtain ⟨us, hu1, hu2, hu3⟩ := sorted_terms hK.form hn (hss.trans hp)
  have hl : us.length = ss.length := by have := congrArg List.length hu3; simpa using this.symm
  refine ⟨v, us, rfl, hu1, hu2, ?_, bthen (bself w _) hb⟩
  rw [hu3, ← hl, World.size_alloc, List.map_map] at hrow
  rw [strs, List.map_map]
  exact hrow
end Go.Proofs.YtfhpnkmhppfeiaaDoor
