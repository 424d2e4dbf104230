/-
  slices.SortFunc of elements of some cells that are owned, by its contract; what it is told of their order is a function that has a walk.
  Conditions: none.
-/
import Derived.Test.YtjdbjcmmdnpeaaaXc
import Derived.Shelf.SlSortCmp.NoneTotal
namespace Go.S
open Go.Sort Go.Proofs
set_option linter.unusedVariables false
set_option linter.unusedSimpArgs false
def srtF {α : Type} (cf : α → α → Int) (l : List α) : List α := l.mergeSort fun x y => !(ltOf cf) y x
def xSortF {α : Type} (cf : α → α → Int) (l : List α) : Option (List α) := if l.length < 4611686018427387904 then some (srtF cf l) else none
theorem xSortF_some {α : Type} {cf : α → α → Int} {l r : List α} (h : xSortF cf l = some r) : l.length < 4611686018427387904 ∧ r = srtF cf l := by
  unfold xSortF at h
  split at h
  · simp only [Option.some.injEq] at h; exact ⟨by assumption, h.symm⟩
  · cases h
theorem srtF_length {α : Type} (cf : α → α → Int) (l : List α) : (srtF cf l).length = l.length := by unfold srtF; exact List.length_mergeSort l
theorem srtF_mem {α : Type} {cf : α → α → Int} {l : List α} {x : α} : x ∈ srtF cf l ↔ x ∈ l := by unfold srtF; exact List.mem_mergeSort
structure SortFC {α : Type} [Inhabited α] (P : Program) (f : FuncId) (enc : α → List Value) (k : Nat) : Prop where
  some' : ∀ (cf : α → α → Int), SWO (ltOf cf) → (∀ x y, (ltOf cf) x y = false → (ltOf cf) y x = false → x = y) → ∀ (g : Nat) (cb : Array Value) (blk off cap : Nat) (d : Array α) (w : World), (∀ args w, (callFunc g args).run P w = .ok (.enter g args) w) →
    CmpLays P g cb enc k cf blk off d.size w → HoldsK enc k w blk off d → blk < w.heap.size → d.size < 4611686018427387904 →
    Calls P f #[.slice (some ⟨blk, off, none⟩) d.size cap, .func (.func g) #[] cb] w fun e w' => e = .returned (.tuple #[]) ∧ ∃ n os, w' = sortWorldK enc k w blk off n (d.toList.mergeSort fun x y => !(ltOf cf) y x).toArray os
  none' : ∀ (p : Option Addr) (cap : Nat) (fv : Value) (w : World), Calls P f #[.slice p 0 cap, fv] w fun e w' => e = .returned (.tuple #[]) ∧ w' = w
/-- Nothing but draws and new blocks. -/
theorem Cls.grown_of {w w' : World} {m : List As} (h : Cls w [] m w') : ∃ q os, w' = grow (w.drewN q) os := by
  refine ⟨w'.drawn - w.drawn, w'.heap.extract w.heap.size w'.heap.size, ?_⟩
  have hd := h.dr.le
  have h1 := h.os
  have h2 := h.tape
  have h3 := h.output
  have hh : w'.heap = w.heap ++ w'.heap.extract w.heap.size w'.heap.size := by
    apply Array.ext_getElem?
    intro i
    by_cases c : i < w.heap.size
    · rw [Array.getElem?_append_left c, h.old i c (by simp)]
    · rw [Array.getElem?_append_right (by omega), Array.getElem?_extract]
      by_cases c2 : i < w'.heap.size
      · rw [if_pos (by omega), show w.heap.size + (i - w.heap.size) = i by omega]
      · rw [if_neg (by omega), Array.getElem?_eq_none (by omega)]
  cases w'
  cases w
  simp only [grow, World.drewN] at *
  subst h1 h2 h3
  simp only [World.mk.injEq, true_and, and_true]
  exact ⟨hh, by omega⟩
section
variable {α : Type} [Inhabited α] {enc : α → List Value} {k : Nat}
theorem flatK_list (hk : ∀ x, (enc x).length = k) (d : Array α) : (flatK enc k d).toList = (d.toList.map enc).flatten := by
  have hl : ∀ r ∈ d.toList.map enc, r.length = k := by
    intro r hr
    obtain ⟨x, _, rfl⟩ := List.mem_map.1 hr
    exact hk x
  have hfl : (d.toList.map enc).flatten.length = d.size * k := by rw [flat_len _ hl]; simp
  apply List.ext_getElem?
  intro t
  by_cases c : t < d.size * k
  · have k0 : 0 < k := by
      rcases Nat.eq_zero_or_pos k with h | h
      · subst h; simp at c
      · exact h
    have hi : t / k < d.size := (Nat.div_lt_iff_lt_mul k0).2 c
    have hj : t % k < k := Nat.mod_lt _ k0
    have hx : (d.toList.map enc)[t / k]? = some (enc d[t / k]!) := by simp [hi]
    have hlen : t % k < (enc d[t / k]!).length := by rw [hk]; exact hj
    have h1 := flatten_get _ (t / k) (t % k) _ ((enc d[t / k]!)[t % k]!) hl hx (by rw [List.getElem?_eq_getElem hlen]; simp [hlen])
    rw [Nat.div_add_mod' t k] at h1
    rw [h1]
    have h2 : t < (flatK enc k d).size := by rw [size_flatK]; exact c
    have h3 := get_flatK enc k d t c
    rw [getElem!_pos _ t h2] at h3
    rw [Array.getElem?_toList, Array.getElem?_eq_getElem h2, h3]
  · rw [List.getElem?_eq_none (by simp; omega), List.getElem?_eq_none (by rw [hfl]; omega)]
end
section
variable {P : Program} {Q : Exit → Act → World → Prop} {n : Nat} {fs : Fr} {t : TypeId} {ops : Array Oper} {rest : List Oper} {d : Nat} {pos : String} {af : Array Edge}
variable {w0 : World} {own : List Nat} {m : List As} {x y : Operand} {e : TypeId} {i k : Nat} {v : Value} {f g : FuncId} {ts : Array TypeId}
variable {α : Type} [Inhabited α] {enc : α → List Value} {l : List α} {cf : α → α → Int}
theorem Cls.sortedF {w : World} (h : Cls w0 own m w) (hm : m[i]? = some (.sl v e k (l.map enc))) (hS : SortFC P f enc k) (hk : ∀ x, (enc x).length = k) (hO : SWO (ltOf cf)) (hT : ∀ x y, (ltOf cf) x y = false → (ltOf cf) y x = false → x = y)
    (he : entB P g = true) (hC : ∀ x y w, Does P g [.agg (enc x).toArray, .agg (enc y).toArray] w fun u m => u = .int .i64 (cf x y)) (hl : l.length < 4611686018427387904) :
    Calls P f #[v, .func (.func g) #[] #[]] w fun en w' => en = .returned (.tuple #[]) ∧ Cls w0 own (m.set i (.sl v e k ((srtF cf l).map enc))) w' := by
  obtain ⟨hr, hln, h3⟩ := h.get hm
  rcases h3 with ⟨rfl, hn⟩ | ⟨b, cap, cur, rfl, hg, hh, hnc, hcm, hcs, htk⟩
  · have h0 : l = [] := by simpa using hn
    subst h0
    refine Calls.mono (hS.none' none 0 _ w) ?_
    rintro en w' ⟨rfl, rfl⟩
    refine ⟨rfl, ?_⟩
    have : (As.sl (.slice none 0 0) e k ((srtF cf []).map enc)) = As.sl (.slice none 0 0) e k (([] : List α).map enc) := by simp [srtF]
    rw [this, set_self hm]
    exact h
  · rw [List.length_map] at htk hnc
    have hgl : b < w.heap.size := (Array.getElem?_eq_some_iff.1 hh).1
    have hfl := flatK_list hk l.toArray
    have hcap : l.length * k ≤ cap * k := Nat.mul_le_mul_right k hnc
    rw [List.length_map]
    have hH : HoldsK enc k w b 0 l.toArray := by
      intro j hj
      rw [size_flatK] at hj
      have hj' : j < l.length * k := by simpa using hj
      refine ⟨?_, by simp [World.frozen?, hh]⟩
      have h1 : (cur.toList.take (l.length * k))[j]? = (flatK enc k l.toArray).toList[j]? := by rw [htk, hfl]
      rw [List.getElem?_take_of_lt hj', Array.getElem?_toList, Array.getElem?_toList] at h1
      have h2 : j < (flatK enc k l.toArray).size := by rw [size_flatK]; exact hj
      simp only [World.cell?, hh, Nat.zero_add, Option.isSome_none, Bool.false_eq_true, if_false, id]
      rw [h1, Array.getElem?_eq_getElem h2, getElem!_pos _ j h2]
    have hcmp : CmpLays P g #[] enc k cf b 0 l.toArray.size w := by
      intro q os dk hdk x y
      have h1 := hC x y (sortWorldK enc k w b 0 q dk os)
      unfold Does at h1
      refine Calls.mono h1 ?_
      rintro en w' ⟨u, m', rfl, rfl, hc⟩
      exact ⟨rfl, hc.grown_of⟩
    have hcall := hS.some' cf hO hT g #[] b 0 cap l.toArray w (fun args w => run_call he args w) hcmp hH hgl (by simpa using hl)
    rw [List.size_toArray] at hcall
    refine Calls.mono hcall ?_
    rintro en w' ⟨rfl, q, os, rfl⟩
    refine ⟨rfl, Cls.grown ?_ os⟩
    have hsl : (l.toArray.toList.mergeSort fun x y => !(ltOf cf) y x) = srtF cf l := rfl
    rw [hsl]
    have hlen := srtF_length cf l
    have hfl2 := flatK_list hk (srtF cf l).toArray
    refine h.turn hm rfl rfl rfl rfl (by simp [putRowK, Go.Sort.putRow, Go.Sort.mapBlock, Sort.ahead]) (Nat.le_add_right _ _) (fun j hj => ?_) ⟨fun r hr => ?_, ?_⟩
    · have hne : j ≠ b := by
        intro hjb
        exact hj (by simp [As.foot, Value.ownBlock, hjb])
      simp [putRowK, Go.Sort.putRow, Go.Sort.mapBlock, Sort.ahead, Array.getElem?_modify, Ne.symm hne]
    · obtain ⟨z, _, rfl⟩ := List.mem_map.1 hr; exact hk z
    · rw [List.length_map, hlen]
      refine ⟨?_, .inr ⟨b, cap, putCells id 0 (flatK enc k (srtF cf l).toArray) cur, rfl, hg, ?_, hnc, hcm, by simp [putCells, hcs], ?_⟩⟩
      · rw [flat_len _ (fun r hr => by obtain ⟨z, _, rfl⟩ := List.mem_map.1 hr; exact hk z), List.length_map, hlen]
      · simp [putRowK, Go.Sort.putRow, Go.Sort.mapBlock, Sort.ahead, Array.getElem?_modify, hh, onCells]
      · rw [← hfl2]
        apply List.ext_getElem?
        intro j
        by_cases c : j < l.length * k
        · have h2 : j < (flatK enc k (srtF cf l).toArray).size := by rw [size_flatK, List.size_toArray, hlen]; exact c
          rw [List.getElem?_take_of_lt c, Array.getElem?_toList, Array.getElem?_toList, Array.getElem?_eq_getElem h2]
          simp only [putCells, Array.getElem?_mapIdx, Nat.zero_le, true_and, Nat.zero_add, Nat.sub_zero, id]
          rw [Array.getElem?_eq_getElem (show j < cur.size by omega)]
          simp only [Option.map_some, if_pos h2]
          rw [getElem!_pos _ j h2]
        · rw [List.getElem?_take_eq_none (by omega), List.getElem?_eq_none (by simp [hlen]; omega)]
theorem L.sortFMD {ρ : Type} {r : ρ} {F : List α → Option ρ} (h : bind1 (xSortF cf l) F = some r) (hS : SortFC P f enc k) (hk : ∀ x, (enc x).length = k) (hO : SWO (ltOf cf)) (hT : ∀ x y, (ltOf cf) x y = false → (ltOf cf) y x = false → x = y)
    (hg : entB P g = true) (hC : ∀ x y w, Does P g [.agg (enc x).toArray, .agg (enc y).toArray] w fun u m => u = .int .i64 (cf x y)) (hd : Nat.blt d n = true) (he : entB P f = true) (hx : val fs x = some v) (hy : val fs y = some (.func (.func g) #[] #[])) (hm : m[i]? = some (.sl v e k (l.map enc)))
    (next : ∀ z, xSortF cf l = some z → F z = some r → L P ops Q n (Cls w0 own (m.set i (.sl v e k (z.map enc)))) rest ((d, .tuple #[]) :: fs)) : L P ops Q n (Cls w0 own m) (⟨some d, .call ⟨.value (.func f), #[x, y], ts⟩, t, pos, af, none⟩ :: rest) fs := by
  obtain ⟨z, hz, h⟩ := bind1S h
  obtain ⟨hl, rfl⟩ := xSortF_some hz
  intro a w hs hw
  have hrun : (execOp a.eval ⟨some d, .call ⟨.value (.func f), #[x, y], ts⟩, t, pos, af, none⟩).run P w = .ok (.enter f #[v, .func (.func g) #[] #[]]) w := run_callF (xs := [x, y]) (vs := [v, .func (.func g) #[] #[]]) he (by simp [vals, hx, hy]) hs w (some d)
  simp only [wpList, Region.wanted, if_true]
  refine .inl ?_
  unfold Oper.wp
  rw [hrun]
  refine (hw.sortedF hm hS hk hO hT hg hC hl).mono ?_
  rintro en w' ⟨rfl, hc⟩
  exact next _ hz h _ w' (hs.put hd _) hc
end
end Go.S
