/-
  slices.SortFunc of elements that its order parts one by one, though it does not part all there are.
  Conditions: none.
-/
import Derived.Test.YtjdbjcmmdnpeaaaSf
import Derived.Test.YtjdbjcmmdnpeaaaIn
namespace Go.S
open Go.Sort Go.Proofs
set_option linter.unusedVariables false
set_option linter.unusedSimpArgs false
def dist {α : Type} (cf : α → α → Int) (l : List α) : Prop := l.Pairwise fun x y => ltOf cf x y = true ∨ ltOf cf y x = true
instance {α : Type} (cf : α → α → Int) (l : List α) : Decidable (dist cf l) := inferInstanceAs (Decidable (List.Pairwise _ _))
def xSortG {α : Type} (cf : α → α → Int) (l : List α) : Option (List α) := if l.length < 4611686018427387904 ∧ dist cf l then some (srtF cf l) else none
theorem xSortG_some {α : Type} {cf : α → α → Int} {l r : List α} (h : xSortG cf l = some r) : l.length < 4611686018427387904 ∧ dist cf l ∧ r = srtF cf l := by
  unfold xSortG at h
  split at h
  · rename_i hc; simp only [Option.some.injEq] at h; exact ⟨hc.1, hc.2, h.symm⟩
  · cases h
theorem dist_eq {α : Type} {cf : α → α → Int} : ∀ {l : List α}, dist cf l → ∀ a b, a ∈ l → b ∈ l → ltOf cf a b = false → ltOf cf b a = false → a = b
  | [], _, a, b, ha, _, _, _ => by simp at ha
  | x :: l, h, a, b, ha, hb, h1, h2 => by
    have h' := List.pairwise_cons.1 h
    rcases List.mem_cons.1 ha with rfl | ha2
    · rcases List.mem_cons.1 hb with rfl | hb2
      · rfl
      · rcases h'.1 b hb2 with h3 | h3
        · rw [h1] at h3; cases h3
        · rw [h2] at h3; cases h3
    · rcases List.mem_cons.1 hb with rfl | hb2
      · rcases h'.1 a ha2 with h3 | h3
        · rw [h2] at h3; cases h3
        · rw [h1] at h3; cases h3
      · exact dist_eq h'.2 a b ha2 hb2 h1 h2
theorem sorted_dist {α : Type} [Inhabited α] {cf : α → α → Int} (hS : SWO (ltOf cf)) (d d' : Array α) (hP : PermIn 0 d.size d d') (hSo : SortedIn (ltOf cf) 0 d.size d') (hD : dist cf d.toList) : d'.toList = d.toList.mergeSort (fun x y => !(ltOf cf) y x) := by
  obtain ⟨hsz, _, hperm⟩ := hP
  have e1 : d'.extract 0 d.size = d' := by rw [← hsz]; exact Array.extract_size
  rw [e1, Array.extract_size] at hperm
  refine List.Perm.eq_of_pairwise (le := fun x y => (!(ltOf cf) y x) = true) ?_ ?_ ?_ (hperm.trans (List.mergeSort_perm _ _).symm)
  · intro a b ha hb h1 h2
    simp only [Bool.not_eq_true'] at h1 h2
    exact dist_eq hD a b (hperm.mem_iff.1 ha) (List.mem_mergeSort.1 hb) h2 h1
  · rw [List.pairwise_iff_getElem]
    intro i j hi hj hij
    have hi' : i < d'.size := by simpa using hi
    have hj' : j < d'.size := by simpa using hj
    have := hSo i j (Nat.zero_le _) hij (by omega)
    rw [getElem!_pos d' j hj', getElem!_pos d' i hi'] at this
    simpa using this
  · refine List.pairwise_mergeSort ?_ ?_ _
    · intro a b c h1 h2
      simp only [Bool.not_eq_true'] at h1 h2 ⊢
      exact hS.ntrans c b a h2 h1
    · intro a b
      cases h : (ltOf cf) b a with
      | false => simp
      | true => simp [hS.asymmA h]
structure SortGC {α : Type} [Inhabited α] (P : Program) (f : FuncId) (enc : α → List Value) (k : Nat) : Prop where
  some' : ∀ (cf : α → α → Int), SWO (ltOf cf) → ∀ (g : Nat) (cb : Array Value) (blk off cap : Nat) (d : Array α) (w : World), (∀ args w, (callFunc g args).run P w = .ok (.enter g args) w) →
    CmpLays P g cb enc k cf blk off d.size w → HoldsK enc k w blk off d → blk < w.heap.size → d.size < 4611686018427387904 → dist cf d.toList →
    Calls P f #[.slice (some ⟨blk, off, none⟩) d.size cap, .func (.func g) #[] cb] w fun e w' => e = .returned (.tuple #[]) ∧ ∃ n os, w' = sortWorldK enc k w blk off n (d.toList.mergeSort fun x y => !(ltOf cf) y x).toArray os
  none' : ∀ (p : Option Addr) (cap : Nat) (fv : Value) (w : World), Calls P f #[.slice p 0 cap, fv] w fun e w' => e = .returned (.tuple #[]) ∧ w' = w
section
variable {P : Program} {Q : Exit → Act → World → Prop} {n : Nat} {fs : Fr} {t : TypeId} {ops : Array Oper} {rest : List Oper} {d : Nat} {pos : String} {af : Array Edge}
variable {w0 : World} {own : List Nat} {m : List As} {x y : Operand} {e : TypeId} {i k : Nat} {v : Value} {f g : FuncId} {ts : Array TypeId}
variable {α : Type} [Inhabited α] {enc : α → List Value} {l : List α} {cf : α → α → Int}
theorem Cls.sortedG {w : World} (h : Cls w0 own m w) (hm : m[i]? = some (.sl v e k (l.map enc))) (hS : SortGC P f enc k) (hk : ∀ x, (enc x).length = k) (hO : SWO (ltOf cf)) (hD : dist cf l)
    (he : entB P g = true) (hC : ∀ x y w, Does P g [.agg (enc x).toArray, .agg (enc y).toArray] w fun u m => u = .int .i64 (cf x y)) (hl : l.length < 4611686018427387904) :
    Calls P f #[v, .func (.func g) #[] #[]] w fun en w' => en = .returned (.tuple #[]) ∧ Cls w0 own (m.set i (.sl v e k ((srtF cf l).map enc))) w' := by
  obtain ⟨hr, hln, h3⟩ := h.get hm
  rcases h3 with ⟨rfl, hn⟩ | ⟨b, cap, cur, rfl, hg, hh, hnc, hcm, hcs, htk⟩
  · have h0 : l = [] := by simpa using hn
    subst h0
    refine Calls.mono (hS.none' none 0 _ w) ?_
    rintro en w' ⟨rfl, rfl⟩
    refine ⟨rfl, ?_⟩
    have : (As.sl (.slice none 0 0) e k ((srtF cf []).map enc)) = As.sl (.slice none 0 0) e k (([] : List α).map enc) := by simp [srtF]
    rw [this, set_self hm]
    exact h
  · rw [List.length_map] at htk hnc
    have hgl : b < w.heap.size := (Array.getElem?_eq_some_iff.1 hh).1
    have hfl := flatK_list hk l.toArray
    have hcap : l.length * k ≤ cap * k := Nat.mul_le_mul_right k hnc
    rw [List.length_map]
    have hH : HoldsK enc k w b 0 l.toArray := by
      intro j hj
      rw [size_flatK] at hj
      have hj' : j < l.length * k := by simpa using hj
      refine ⟨?_, by simp [World.frozen?, hh]⟩
      have h1 : (cur.toList.take (l.length * k))[j]? = (flatK enc k l.toArray).toList[j]? := by rw [htk, hfl]
      rw [List.getElem?_take_of_lt hj', Array.getElem?_toList, Array.getElem?_toList] at h1
      have h2 : j < (flatK enc k l.toArray).size := by rw [size_flatK]; exact hj
      simp only [World.cell?, hh, Nat.zero_add, Option.isSome_none, Bool.false_eq_true, if_false, id]
      rw [h1, Array.getElem?_eq_getElem h2, getElem!_pos _ j h2]
    have hcmp : CmpLays P g #[] enc k cf b 0 l.toArray.size w := by
      intro q os dk hdk x y
      have h1 := hC x y (sortWorldK enc k w b 0 q dk os)
      unfold Does at h1
      refine Calls.mono h1 ?_
      rintro en w' ⟨u, m', rfl, rfl, hc⟩
      exact ⟨rfl, hc.grown_of⟩
    have hcall := hS.some' cf hO g #[] b 0 cap l.toArray w (fun args w => run_call he args w) hcmp hH hgl (by simpa using hl) hD
    rw [List.size_toArray] at hcall
    refine Calls.mono hcall ?_
    rintro en w' ⟨rfl, q, os, rfl⟩
    refine ⟨rfl, Cls.grown ?_ os⟩
    have hsl : (l.toArray.toList.mergeSort fun x y => !(ltOf cf) y x) = srtF cf l := rfl
    rw [hsl]
    have hlen := srtF_length cf l
    have hfl2 := flatK_list hk (srtF cf l).toArray
    refine h.turn hm rfl rfl rfl rfl (by simp [putRowK, Go.Sort.putRow, Go.Sort.mapBlock, Sort.ahead]) (Nat.le_add_right _ _) (fun j hj => ?_) ⟨fun r hr => ?_, ?_⟩
    · have hne : j ≠ b := by
        intro hjb
        exact hj (by simp [As.foot, Value.ownBlock, hjb])
      simp [putRowK, Go.Sort.putRow, Go.Sort.mapBlock, Sort.ahead, Array.getElem?_modify, Ne.symm hne]
    · obtain ⟨z, _, rfl⟩ := List.mem_map.1 hr; exact hk z
    · rw [List.length_map, hlen]
      refine ⟨?_, .inr ⟨b, cap, putCells id 0 (flatK enc k (srtF cf l).toArray) cur, rfl, hg, ?_, hnc, hcm, by simp [putCells, hcs], ?_⟩⟩
      · rw [flat_len _ (fun r hr => by obtain ⟨z, _, rfl⟩ := List.mem_map.1 hr; exact hk z), List.length_map, hlen]
      · simp [putRowK, Go.Sort.putRow, Go.Sort.mapBlock, Sort.ahead, Array.getElem?_modify, hh, onCells]
      · rw [← hfl2]
        apply List.ext_getElem?
        intro j
        by_cases c : j < l.length * k
        · have h2 : j < (flatK enc k (srtF cf l).toArray).size := by rw [size_flatK, List.size_toArray, hlen]; exact c
          rw [List.getElem?_take_of_lt c, Array.getElem?_toList, Array.getElem?_toList, Array.getElem?_eq_getElem h2]
          simp only [putCells, Array.getElem?_mapIdx, Nat.zero_le, true_and, Nat.zero_add, Nat.sub_zero, id]
          rw [Array.getElem?_eq_getElem (show j < cur.size by omega)]
          simp only [Option.map_some, if_pos h2]
          rw [getElem!_pos _ j h2]
        · rw [List.getElem?_take_eq_none (by omega), List.getElem?_eq_none (by simp [hlen]; omega)]
theorem L.sortGMD {ρ : Type} {r : ρ} {F : List α → Option ρ} (h : bind1 (xSortG cf l) F = some r) (hS : SortGC P f enc k) (hk : ∀ x, (enc x).length = k) (hO : SWO (ltOf cf))
    (hg : entB P g = true) (hC : ∀ x y w, Does P g [.agg (enc x).toArray, .agg (enc y).toArray] w fun u m => u = .int .i64 (cf x y)) (hd : Nat.blt d n = true) (he : entB P f = true) (hx : val fs x = some v) (hy : val fs y = some (.func (.func g) #[] #[])) (hm : m[i]? = some (.sl v e k (l.map enc)))
    (next : ∀ z, xSortG cf l = some z → F z = some r → L P ops Q n (Cls w0 own (m.set i (.sl v e k (z.map enc)))) rest ((d, .tuple #[]) :: fs)) : L P ops Q n (Cls w0 own m) (⟨some d, .call ⟨.value (.func f), #[x, y], ts⟩, t, pos, af, none⟩ :: rest) fs := by
  obtain ⟨z, hz, h⟩ := bind1S h
  obtain ⟨hl, hD, rfl⟩ := xSortG_some hz
  intro a w hs hw
  have hrun : (execOp a.eval ⟨some d, .call ⟨.value (.func f), #[x, y], ts⟩, t, pos, af, none⟩).run P w = .ok (.enter f #[v, .func (.func g) #[] #[]]) w := run_callF (xs := [x, y]) (vs := [v, .func (.func g) #[] #[]]) he (by simp [vals, hx, hy]) hs w (some d)
  simp only [wpList, Region.wanted, if_true]
  refine .inl ?_
  unfold Oper.wp
  rw [hrun]
  refine (hw.sortedG hm hS hk hO hD hg hC hl).mono ?_
  rintro en w' ⟨rfl, hc⟩
  exact next _ hz h _ w' (hs.put hd _) hc
end
end Go.S
