/-
  slices.SortFunc of slices of ints that are owned, by their heads; what it is told of their order reads them.
  Conditions: none.
-/
import Derived.Test.YtjhcdmcikodgkaaSf
import Derived.Test.YtjhcdmcikodgkaaTl
namespace Go.S
open Go.Sort Go.Proofs
set_option linter.unusedVariables false
set_option linter.unusedSimpArgs false
structure SortLC (P : Program) (f : FuncId) : Prop where
  some' : ∀ {α : Type} [Inhabited α] (enc : α → Value), OneCell enc → ∀ (cf : α → α → Int), SWO (ltOf cf) → (∀ x y, (ltOf cf) x y = false → (ltOf cf) y x = false → x = y) → ∀ (g : Nat) (cb : Array Value) (blk off cap : Nat) (d : Array α) (w : World), (∀ args w, (callFunc g args).run P w = .ok (.enter g args) w) →
    CmpLays1 P g cb enc cf blk off d.size w → Holds enc w blk off d → blk < w.heap.size → d.size < 4611686018427387904 →
    Calls P f #[.slice (some ⟨blk, off, none⟩) d.size cap, .func (.func g) #[] cb] w fun e w' => e = .returned (.tuple #[]) ∧ ∃ n os, w' = sortWorld enc w blk off n (d.toList.mergeSort fun x y => !(ltOf cf) y x).toArray os
  none' : ∀ (p : Option Addr) (cap : Nat) (fv : Value) (w : World), Calls P f #[.slice p 0 cap, fv] w fun e w' => e = .returned (.tuple #[]) ∧ w' = w
def hd0 (l : List Int) : Int := l.headD 0
def cfH (x y : List Int) : Int := hd0 x - hd0 y
def okH (l : List Int) : Prop := l ≠ [] ∧ 0 ≤ hd0 l ∧ hd0 l < 4611686018427387904
instance (l : List Int) : Decidable (okH l) := inferInstanceAs (Decidable (_ ∧ _))
def srtH (l : List (List Int)) : List (List Int) := l.mergeSort fun x y => decide (hd0 x ≤ hd0 y)
/-- Lists of ints by their heads: none empty, no head twice. -/
def xSortH (l : List (List Int)) : Option (List (List Int)) := if l.length < 4611686018427387904 ∧ (∀ x ∈ l, okH x) ∧ l.Pairwise (fun x y => hd0 x ≠ hd0 y) then some (srtH l) else none
theorem xSortH_some {l r : List (List Int)} (h : xSortH l = some r) : l.length < 4611686018427387904 ∧ (∀ x ∈ l, okH x) ∧ l.Pairwise (fun x y => hd0 x ≠ hd0 y) ∧ r = srtH l := by
  unfold xSortH at h
  split at h
  · rename_i hc; simp only [Option.some.injEq] at h; exact ⟨hc.1, hc.2.1, hc.2.2, h.symm⟩
  · cases h
theorem one_flat {α : Type} (f : α → Value) : ∀ l : List α, (l.map fun x => [f x]).flatten = l.map f
  | [] => rfl
  | x :: l => by simp only [List.map_cons, List.flatten_cons, one_flat f l]; rfl
/-- Lists and the values that hold them. -/
def prs (q : Nat → List Value) : List (List Int) → List (List Int × Value)
  | [] => []
  | x :: l => (x, gv (q 0) 0) :: prs (fun i => q (i + 1)) l
theorem prs_fst : ∀ (q : Nat → List Value) (l : List (List Int)), (prs q l).map Prod.fst = l
  | _, [] => rfl
  | q, x :: l => by rw [prs, List.map_cons, prs_fst]
theorem prs_zr : ∀ (q : Nat → List Value) (l : List (List Int)), zr svRow q l = (prs q l).map fun p => [p.2]
  | _, [] => rfl
  | q, x :: l => by rw [prs, List.map_cons, zr, prs_zr]; rfl
theorem prs_zs (e k : Nat) : ∀ (q : Nat → List Value) (l : List (List Int)), zs (svSd e k I) q l = (prs q l).map fun p => ⟨p.2, e, k, p.1.map I⟩
  | _, [] => rfl
  | q, x :: l => by rw [prs, List.map_cons, zs, prs_zs]; rfl
def gof (L : List (List Int × Value)) : Nat → List Value := fun i => [((L[i]?).map Prod.snd).getD (.slice none 0 0)]
theorem prs_gof : ∀ L : List (List Int × Value), prs (gof L) (L.map Prod.fst) = L
  | [] => rfl
  | p :: L => by
    rw [List.map_cons, prs]
    have h1 : (fun i => gof (p :: L) (i + 1)) = gof L := by funext i; simp [gof]
    rw [h1, prs_gof]
    rfl
section
variable {P : Program} {Q : Exit → Act → World → Prop} {n : Nat} {fs : Fr} {t : TypeId} {ops : Array Oper} {rest : List Oper} {d : Nat} {pos : String} {af : Array Edge}
variable {w0 : World} {own : List Nat} {m : List As} {x y : Operand} {e : TypeId} {i j k : Nat} {v : Value} {f g : FuncId} {ts : Array TypeId}
theorem Cls.sortedL {α : Type} [Inhabited α] {enc : α → Value} {l : List α} {cf : α → α → Int} {w : World} (h : Cls w0 own m w) (hm : m[i]? = some (.sl v e 1 (l.map fun x => [enc x]))) (hS : SortLC P f) (h1c : OneCell enc) (hO : SWO (ltOf cf)) (hT : ∀ x y, (ltOf cf) x y = false → (ltOf cf) y x = false → x = y)
    (he : entB P g = true) (hC : ∀ x y w' (l' : List α), l'.length = l.length → Cls w0 own (m.set i (.sl v e 1 (l'.map fun x => [enc x]))) w' → Does P g [enc x, enc y] w' fun u m => u = .int .i64 (cf x y)) (hl : l.length < 4611686018427387904) :
    Calls P f #[v, .func (.func g) #[] #[]] w fun en w' => en = .returned (.tuple #[]) ∧ Cls w0 own (m.set i (.sl v e 1 ((srtF cf l).map fun x => [enc x]))) w' := by
  obtain ⟨hr, hln, h3⟩ := h.get hm
  rcases h3 with ⟨rfl, hn⟩ | ⟨b, cap, cur, rfl, hg, hh, hnc, hcm, hcs, htk⟩
  · have h0 : l = [] := by simpa using hn
    subst h0
    refine Calls.mono (hS.none' none 0 _ w) ?_
    rintro en w' ⟨rfl, rfl⟩
    refine ⟨rfl, ?_⟩
    have : (As.sl (.slice none 0 0) e 1 ((srtF cf []).map fun x => [enc x])) = As.sl (.slice none 0 0) e 1 (([] : List α).map fun x => [enc x]) := by simp [srtF]
    rw [this, set_self hm]
    exact h
  · rw [List.length_map] at htk hnc
    rw [Nat.mul_one, one_flat] at htk
    have hgl : b < w.heap.size := (Array.getElem?_eq_some_iff.1 hh).1
    rw [List.length_map]
    rw [List.length_map] at hC
    have hcs' : cur.size = cap := by simpa using hcs
    have key : ∀ (q : Nat) (os : Array Obj) (l' : List α), l'.length = l.length → Cls w0 own (m.set i (.sl (.slice (some ⟨b, 0, none⟩) l.length cap) e 1 (l'.map fun x => [enc x]))) (sortWorld enc w b 0 q l'.toArray os) := by
      intro q os l' hl'
      refine Cls.grown ?_ os
      refine h.turn hm (by rw [List.length_map]; rfl) rfl rfl rfl (by simp [putRow, mapBlock, Sort.ahead]) (Nat.le_add_right _ _) (fun z hz => ?_) ⟨fun r hr => ?_, ?_⟩
      · have hne : z ≠ b := by
          intro hzb
          exact hz (by simp [As.foot, Value.ownBlock, hzb])
        simp [putRow, mapBlock, Sort.ahead, Array.getElem?_modify, Ne.symm hne]
      · obtain ⟨z, _, rfl⟩ := List.mem_map.1 hr; rfl
      · rw [List.length_map, hl', one_flat]
        refine ⟨by simp [hl'], .inr ⟨b, cap, putCells enc 0 l'.toArray cur, rfl, hg, ?_, hnc, hcm, by simp [putCells, hcs'], ?_⟩⟩
        · simp [putRow, mapBlock, Sort.ahead, Array.getElem?_modify, hh, onCells]
        · rw [Nat.mul_one]
          apply List.ext_getElem?
          intro z
          by_cases c : z < l.length
          · rw [List.getElem?_take_of_lt c, Array.getElem?_toList]
            simp only [putCells, Array.getElem?_mapIdx, Nat.zero_le, true_and, Nat.zero_add, Nat.sub_zero]
            rw [Array.getElem?_eq_getElem (show z < cur.size by omega)]
            simp only [Option.map_some, List.size_toArray]
            rw [if_pos (by omega), List.getElem?_map, List.getElem?_eq_getElem (show z < l'.length by omega), getElem!_pos _ z (by simp; omega)]
            simp
          · rw [List.getElem?_take_eq_none (by omega), List.getElem?_eq_none (by simp [hl']; omega)]
    have hH : Holds enc w b 0 l.toArray := by
      intro z hz
      have hz' : z < l.length := by simpa using hz
      refine ⟨?_, by simp [World.frozen?, hh]⟩
      have h2 : (cur.toList.take l.length)[z]? = (l.map enc)[z]? := by rw [htk]
      rw [List.getElem?_take_of_lt hz', Array.getElem?_toList, List.getElem?_map] at h2
      simp only [World.cell?, hh, Nat.zero_add, Option.isSome_none, Bool.false_eq_true, if_false]
      rw [h2, List.getElem?_eq_getElem hz', getElem!_pos _ z hz]
      simp
    have hcmp : CmpLays1 P g #[] enc cf b 0 l.toArray.size w := by
      intro q os dk hdk x y
      have hk := key q os dk.toList (by simpa using hdk)
      rw [Array.toArray_toList] at hk
      have h1 := hC x y _ dk.toList (by simpa using hdk) hk
      unfold Does at h1
      refine Calls.mono h1 ?_
      rintro en w' ⟨u, m', rfl, rfl, hc⟩
      exact ⟨rfl, hc.grown_of⟩
    have hcall := hS.some' enc h1c cf hO hT g #[] b 0 cap l.toArray w (fun args w => run_call he args w) hcmp hH hgl (by simpa using hl)
    rw [List.size_toArray] at hcall
    refine Calls.mono hcall ?_
    rintro en w' ⟨rfl, q, os, rfl⟩
    exact ⟨rfl, key q os (srtF cf l) (srtF_length cf l)⟩
theorem Cls.ssPerm {L L' : List Sd} {w : World} (h : Cls w0 own m w) (hj : m[j]? = some (.ss L)) (hp : L'.Perm L) : Cls w0 own (m.set j (.ss L')) w := by
  obtain ⟨hjl, hje⟩ := List.getElem?_eq_some_iff.1 hj
  have hs : m = m.take j ++ .ss L :: m.drop (j + 1) := by rw [← hje, List.getElem_cons_drop, List.take_append_drop]
  have hs2 : m.set j (.ss L') = m.take j ++ .ss L' :: m.drop (j + 1) := List.set_eq_take_append_cons_drop.trans (by rw [if_pos hjl])
  refine h.rePerm ?_ fun x hx => ?_
  · rw [hs2]
    conv => rhs; rw [hs]
    simp only [List.flatMap_append, List.flatMap_cons]
    exact List.Perm.append_left _ (List.Perm.append_right _ (hp.flatMap_right _))
  · rw [hs2] at hx
    rcases List.mem_append.1 hx with h1 | h1
    · exact (h.mine x (List.mem_of_mem_take h1)).1
    · rcases List.mem_cons.1 h1 with rfl | h1
      · intro d hd
        exact (h.get hj) d (hp.mem_iff.1 hd)
      · exact (h.mine x (List.mem_of_mem_drop h1)).1
theorem pw_mem {L : List (List Int × Value)} (h : (L.map Prod.fst).Pairwise fun x y => hd0 x ≠ hd0 y) : ∀ a b, a ∈ L → b ∈ L → hd0 a.1 = hd0 b.1 → a = b := by
  induction L with
  | nil => intro a b ha; cases ha
  | cons p L ih =>
    rw [List.map_cons, List.pairwise_cons] at h
    intro a b ha hb hab
    rcases List.mem_cons.1 ha with rfl | ha2
    · rcases List.mem_cons.1 hb with rfl | hb2
      · rfl
      · exact absurd hab (h.1 _ (List.mem_map_of_mem hb2))
    · rcases List.mem_cons.1 hb with rfl | hb2
      · exact absurd hab.symm (h.1 _ (List.mem_map_of_mem ha2))
      · exact ih h.2 a b ha2 hb2 hab
theorem Cls.sortedH {e' : TypeId} {q : Nat → List Value} {l : List (List Int)} {mc : List Int → List Int → Option Int} {w : World} (h : Cls w0 own m w) (hm : m[i]? = some (.sl v e 1 (zr svRow q l))) (hj : m[j]? = some (.ss (zs (svSd e' 1 I) q l))) (hij : i ≠ j) (hS : SortLC P f) (he : entB P g = true)
    (hc : ∀ x y, okH x → okH y → mc x y = some (cfH x y)) (hg : ∀ a b u v w r, mc a b = some r → At w u 1 (a.map I) → At w v 1 (b.map I) → Does P g [u, v] w fun x _ => x = .int .i64 r)
    (hl : l.length < 4611686018427387904) (hok : ∀ x ∈ l, okH x) (hd : l.Pairwise fun x y => hd0 x ≠ hd0 y) :
    Calls P f #[v, .func (.func g) #[] #[]] w fun en w' => en = .returned (.tuple #[]) ∧ ∃ q', Cls w0 own ((m.set i (.sl v e 1 (zr svRow q' (srtH l)))).set j (.ss (zs (svSd e' 1 I) q' (srtH l)))) w' := by
  by_cases h0 : l = []
  · subst h0
    obtain ⟨hr, hln, h3⟩ := h.get hm
    have hv : ∃ p cap, v = .slice p 0 cap := by
      rcases h3 with ⟨rfl, _⟩ | ⟨b, cap, cur, rfl, _⟩
      · exact ⟨_, _, rfl⟩
      · exact ⟨_, _, rfl⟩
    obtain ⟨p, cap, rfl⟩ := hv
    refine Calls.mono (hS.none' p cap _ w) ?_
    rintro en w' ⟨rfl, rfl⟩
    refine ⟨rfl, q, ?_⟩
    have h1 : srtH [] = [] := by simp [srtH]
    rw [h1, set_self hm, set_self hj]
    exact h
  · have hL : prs q l ≠ [] := by
      intro h1
      apply h0
      rw [← prs_fst q l, h1]
      rfl
    generalize hLe : prs q l = L at *
    have hfst : L.map Prod.fst = l := by rw [← hLe, prs_fst]
    have hzr : zr svRow q l = L.map fun p => [p.2] := by rw [prs_zr, hLe]
    have hzs : zs (svSd e' 1 I) q l = L.map fun p => (⟨p.2, e', 1, p.1.map I⟩ : Sd) := by rw [prs_zs, hLe]
    have hok' : ∀ p ∈ L, okH p.1 := fun p hp => hok _ (by rw [← hfst]; exact List.mem_map_of_mem hp)
    have hpm := pw_mem (L := L) (by rw [hfst]; exact hd)
    haveI : Inhabited {p // p ∈ L} := ⟨⟨L.head hL, List.head_mem hL⟩⟩
    have hlt : ∀ x y : {p // p ∈ L}, ltOf (fun x y : {p // p ∈ L} => cfH x.1.1 y.1.1) x y = decide (hd0 x.1.1 < hd0 y.1.1) := by
      intro x y
      have : ltOf (fun x y : {p // p ∈ L} => cfH x.1.1 y.1.1) x y = decide (cfH x.1.1 y.1.1 < 0) := rfl
      rw [this, decide_eq_decide]
      unfold cfH
      omega
    have hSW : SWO (ltOf fun x y : {p // p ∈ L} => cfH x.1.1 y.1.1) := by
      refine ⟨fun x => ?_, fun x y z h1 h2 => ?_, fun x y z h1 h2 => ?_⟩
      · rw [hlt]; simp
      · rw [hlt] at *; simp only [decide_eq_true_eq] at *; omega
      · rw [hlt] at *; simp only [decide_eq_false_iff_not] at *; omega
    have hT : ∀ x y : {p // p ∈ L}, ltOf (fun x y : {p // p ∈ L} => cfH x.1.1 y.1.1) x y = false → ltOf (fun x y : {p // p ∈ L} => cfH x.1.1 y.1.1) y x = false → x = y := by
      intro x y h1 h2
      rw [hlt] at h1 h2
      simp only [decide_eq_false_iff_not] at h1 h2
      exact Subtype.ext (hpm _ _ x.2 y.2 (by omega))
    have hrow : ∀ X : List {p // p ∈ L}, (X.map fun x => [x.1.2]) = (X.map Subtype.val).map fun p => [p.2] := fun X => by rw [List.map_map]; rfl
    have hm' : m[i]? = some (.sl v e 1 (L.attach.map fun x => [x.1.2])) := by rw [hm, hzr, hrow, List.attach_map_subtype_val]
    have hssd : ∀ w' (X : List {p // p ∈ L}), Cls w0 own (m.set i (.sl v e 1 (X.map fun x => [x.1.2]))) w' → ∀ p ∈ L, At w' p.2 1 (p.1.map I) := by
      intro w' X hw p hp
      have h1 : (m.set i (.sl v e 1 (X.map fun x => [x.1.2])))[j]? = some (.ss (zs (svSd e' 1 I) q l)) := by rw [List.getElem?_set_ne hij]; exact hj
      have h2 := hw.get h1
      rw [hzs] at h2
      exact As.at_ (e := e') (h2 ⟨p.2, e', 1, p.1.map I⟩ (List.mem_map_of_mem hp))
    have h1c : OneCell fun x : {p // p ∈ L} => x.1.2 := fun x => (hssd w L.attach (by rw [set_self hm']; exact h) x.1 x.2).one
    refine Calls.mono (h.sortedL (l := L.attach) (enc := fun x => x.1.2) (cf := fun x y => cfH x.1.1 y.1.1) hm' hS h1c hSW hT he (fun x y w' l' _ hw => ?_) (by rw [List.length_attach, ← List.length_map (f := Prod.fst), hfst]; exact hl)) ?_
    · exact hg x.1.1 y.1.1 _ _ w' _ (hc _ _ (hok' _ x.2) (hok' _ y.2)) (hssd w' l' hw _ x.2) (hssd w' l' hw _ y.2)
    · rintro en w' ⟨rfl, hcl⟩
      generalize hX : srtF (fun x y : {p // p ∈ L} => cfH x.1.1 y.1.1) L.attach = X at hcl
      have hpX : X.Perm L.attach := by rw [← hX]; exact List.mergeSort_perm _ _
      have hpL : (X.map Subtype.val).Perm L := (hpX.map Subtype.val).trans (by rw [List.attach_map_subtype_val])
      have hl2 : (X.map Subtype.val).map Prod.fst = srtH l := by
        rw [← hX, List.map_map]
        unfold srtF srtH
        rw [List.map_mergeSort (s := fun x y => decide (hd0 x ≤ hd0 y))]
        · rw [← List.map_map, List.attach_map_subtype_val, hfst]
        · intro a _ b _
          rw [hlt]
          simp only [Function.comp]
          by_cases c : hd0 b.1.1 < hd0 a.1.1
          · rw [decide_eq_true c, decide_eq_false (by omega)]; rfl
          · rw [decide_eq_false c, decide_eq_true (by omega)]; rfl
      refine ⟨rfl, gof (X.map Subtype.val), ?_⟩
      rw [← hl2]
      have e1 : zr svRow (gof (X.map Subtype.val)) ((X.map Subtype.val).map Prod.fst) = X.map fun x => [x.1.2] := by rw [prs_zr, prs_gof, hrow]
      have e2 : zs (svSd e' 1 I) (gof (X.map Subtype.val)) ((X.map Subtype.val).map Prod.fst) = (X.map Subtype.val).map fun p => (⟨p.2, e', 1, p.1.map I⟩ : Sd) := by rw [prs_zs, prs_gof]
      rw [e1, e2]
      refine hcl.ssPerm (L := zs (svSd e' 1 I) q l) (by rw [List.getElem?_set_ne hij]; exact hj) ?_
      rw [hzs]
      exact hpL.map _
theorem L.sortH {ρ : Type} {r : ρ} {F : List (List Int) → Option ρ} {e' : TypeId} {q : Nat → List Value} {l : List (List Int)} {mc : List Int → List Int → Option Int} (h : bind1 (xSortH l) F = some r) (hS : SortLC P f)
    (hc : ∀ x y, okH x → okH y → mc x y = some (cfH x y)) (hg : ∀ a b u v w r, mc a b = some r → At w u 1 (a.map I) → At w v 1 (b.map I) → Does P g [u, v] w fun x _ => x = .int .i64 r)
    (hge : entB P g = true) (hd : Nat.blt d n = true) (he : entB P f = true) (hx : val fs x = some v) (hy : val fs y = some (.func (.func g) #[] #[])) (hm : m[i]? = some (.sl v e 1 (zr svRow q l))) (hj : m[j]? = some (.ss (zs (svSd e' 1 I) q l))) (hij : i ≠ j)
    (next : ∀ z q', xSortH l = some z → F z = some r → L P ops Q n (Cls w0 own ((m.set i (.sl v e 1 (zr svRow q' z))).set j (.ss (zs (svSd e' 1 I) q' z)))) rest ((d, .tuple #[]) :: fs)) : L P ops Q n (Cls w0 own m) (⟨some d, .call ⟨.value (.func f), #[x, y], ts⟩, t, pos, af, none⟩ :: rest) fs := by
  obtain ⟨z, hz, h⟩ := bind1S h
  obtain ⟨hl, hok, hD, rfl⟩ := xSortH_some hz
  intro a w hs hw
  have hrun : (execOp a.eval ⟨some d, .call ⟨.value (.func f), #[x, y], ts⟩, t, pos, af, none⟩).run P w = .ok (.enter f #[v, .func (.func g) #[] #[]]) w := run_callF (xs := [x, y]) (vs := [v, .func (.func g) #[] #[]]) he (by simp [vals, hx, hy]) hs w (some d)
  simp only [wpList, Region.wanted, if_true]
  refine .inl ?_
  unfold Oper.wp
  rw [hrun]
  refine (hw.sortedH hm hj hij hS hge hc hg hl hok hD).mono ?_
  rintro en w' ⟨rfl, q', hcl⟩
  exact next _ q' hz h _ w' (hs.put hd _) hcl
end
end Go.S
