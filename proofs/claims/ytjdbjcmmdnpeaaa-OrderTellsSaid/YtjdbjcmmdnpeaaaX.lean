/-
  slices.Sort of ints that are owned, by its contract.
  Conditions: none.
-/
import Derived.Test.YtjdbjcmmdnpeaaaF
import Derived.Sort.OwnSortedInts
namespace Go.S
open Go.Sort
set_option linter.unusedVariables false
set_option linter.unusedSimpArgs false
def srt (l : List Int) : List Int := l.mergeSort fun x y => decide (x ≤ y)
def xSort (l : List Int) : Option (List Int) := if l.length < 4611686018427387904 then some (srt l) else none
theorem xSort_some {l r : List Int} (h : xSort l = some r) : l.length < 4611686018427387904 ∧ r = srt l := by
  unfold xSort at h
  split at h
  · simp only [Option.some.injEq] at h; exact ⟨by assumption, h.symm⟩
  · cases h
structure SortC (P : Program) (f : FuncId) : Prop where
  some' : ∀ (blk off cap : Nat) (zs : List Int) (w : World), Go.Sort.Holds (Value.int .i64) w blk off zs.toArray → blk < w.heap.size → zs.length < 4611686018427387904 →
    Calls P f #[.slice (some ⟨blk, off, none⟩) zs.length cap] w fun e w' => e = .returned (.tuple #[]) ∧ ∃ n os, w' = grow (Go.Sort.putRow (Value.int .i64) (Sort.ahead w n) blk off (zs.mergeSort fun x y => decide (x ≤ y)).toArray) os
  none' : ∀ (p : Option Addr) (cap : Nat) (w : World), Calls P f #[.slice p 0 cap] w fun e w' => e = .returned (.tuple #[]) ∧ w' = w
theorem ints_flat : ∀ l : List Int, (l.map I).flatten = l.map (Value.int .i64)
  | [] => rfl
  | x :: l => by simp only [List.map_cons, List.flatten_cons, ints_flat l]; rfl
section
variable {P : Program} {Q : Exit → Act → World → Prop} {n : Nat} {fs : Fr} {t : TypeId} {ops : Array Oper} {rest : List Oper} {d : Nat} {pos : String} {af : Array Edge}
variable {w0 : World} {own : List Nat} {m : List As} {x : Operand} {e : TypeId} {i : Nat} {v : Value} {l : List Int} {f : FuncId} {ts : Array TypeId}
theorem srt_length (l : List Int) : (srt l).length = l.length := by unfold srt; exact List.length_mergeSort l
theorem Cls.grown {w : World} (h : Cls w0 own m w) (os : Array Obj) : Cls w0 own m (grow w os) := by
  have h' : Cls w [] [] (grow w os) := ⟨rfl, rfl, rfl, DR.refl _, by simp [grow], fun k hk _ => heap_grow_old w os hk, by simp, fun x hx => by cases hx⟩
  have := h.call h'
  simpa using this
theorem Cls.sorted {w : World} (h : Cls w0 own m w) (hm : m[i]? = some (.sl v e 1 (l.map I))) (hS : SortC P f) (hl : l.length < 4611686018427387904) :
    Calls P f #[v] w fun en w' => en = .returned (.tuple #[]) ∧ Cls w0 own (m.set i (.sl v e 1 ((srt l).map I))) w' := by
  obtain ⟨hr, hln, h3⟩ := h.get hm
  rcases h3 with ⟨rfl, hn⟩ | ⟨g, cap, cur, rfl, hg, hh, hnc, hcm, hcs, htk⟩
  · have h0 : l = [] := by simpa using hn
    subst h0
    refine Calls.mono (hS.none' none 0 w) ?_
    rintro en w' ⟨rfl, rfl⟩
    refine ⟨rfl, ?_⟩
    have : (As.sl (.slice none 0 0) e 1 ((srt []).map I)) = As.sl (.slice none 0 0) e 1 (([] : List Int).map I) := by simp [srt]
    rw [this]
    obtain ⟨h1, h2⟩ := List.getElem?_eq_some_iff.1 hm
    rw [← h2, List.set_getElem_self]
    exact h
  · rw [List.length_map, Nat.mul_one, ints_flat] at htk
    rw [List.length_map] at hnc
    have hgl : g < w.heap.size := (Array.getElem?_eq_some_iff.1 hh).1
    rw [List.length_map]
    refine Calls.mono (hS.some' g 0 cap l w (holds_of_blockI hh htk) hgl hl) ?_
    rintro en w' ⟨rfl, q, os, rfl⟩
    refine ⟨rfl, Cls.grown ?_ os⟩
    have hsz : cur.size = cap * 1 := hcs
    refine h.turn hm rfl rfl rfl rfl (by simp) (Nat.le_add_right _ _) (fun k hk => ?_) ⟨fun r hr => ?_, ?_⟩
    · have := (grownBy_sortedI (w := w) (g := g) (n := q) (os := #[]) (srt l).toArray)
      rw [grow_empty] at this
      have hne : k ≠ g := by
        intro hkg
        exact hk (by simp [As.foot, Value.ownBlock, hkg])
      simp [Go.Sort.putRow, Go.Sort.mapBlock, Sort.ahead, Array.getElem?_modify, Ne.symm hne]
    · obtain ⟨z, _, rfl⟩ := List.mem_map.1 hr; rfl
    · have := ownsRow_sortedI (w := w) (base := 0) (g := g) (cap := cap) (n := q) (e := e) (os := #[]) (cur := cur) (ss := l) (ts := srt l) (srt_length l) (Nat.zero_le _) hh hnc hcm hsz
      rw [grow_empty] at this
      rw [List.length_map, ints_flat, srt_length]
      exact this
theorem L.sortM {ρ : Type} {r : ρ} {F : List Int → Option ρ} (h : bind1 (xSort l) F = some r) (hS : SortC P f) (he : entB P f = true) (hx : val fs x = some v) (hm : m[i]? = some (.sl v e 1 (l.map I)))
    (next : ∀ z, xSort l = some z → F z = some r → L P ops Q n (Cls w0 own (m.set i (.sl v e 1 (z.map I)))) rest fs) : L P ops Q n (Cls w0 own m) (⟨none, .call ⟨.value (.func f), #[x], ts⟩, t, pos, af, none⟩ :: rest) fs := by
  obtain ⟨z, hz, h⟩ := bind1S h
  obtain ⟨hl, rfl⟩ := xSort_some hz
  intro a w hs hw
  have h1 := hs.evals (xs := [x]) (vs := [v]) (by simp [vals, hx])
  have hrun : (execOp a.eval ⟨none, .call ⟨.value (.func f), #[x], ts⟩, t, pos, af, none⟩).run P w = .ok (.enter f #[v]) w := run_callF (xs := [x]) (vs := [v]) he (by simp [vals, hx]) hs w none
  simp only [wpList, Region.wanted, if_true]
  refine .inl ?_
  unfold Oper.wp
  rw [hrun]
  refine (hw.sorted hm hS hl).mono ?_
  rintro en w' ⟨rfl, hc⟩
  exact next _ hz h _ w' hs hc
theorem L.sortMD {ρ : Type} {r : ρ} {F : List Int → Option ρ} (h : bind1 (xSort l) F = some r) (hS : SortC P f) (hd : Nat.blt d n = true) (he : entB P f = true) (hx : val fs x = some v) (hm : m[i]? = some (.sl v e 1 (l.map I)))
    (next : ∀ z, xSort l = some z → F z = some r → L P ops Q n (Cls w0 own (m.set i (.sl v e 1 (z.map I)))) rest ((d, .tuple #[]) :: fs)) : L P ops Q n (Cls w0 own m) (⟨some d, .call ⟨.value (.func f), #[x], ts⟩, t, pos, af, none⟩ :: rest) fs := by
  obtain ⟨z, hz, h⟩ := bind1S h
  obtain ⟨hl, rfl⟩ := xSort_some hz
  intro a w hs hw
  have hrun : (execOp a.eval ⟨some d, .call ⟨.value (.func f), #[x], ts⟩, t, pos, af, none⟩).run P w = .ok (.enter f #[v]) w := run_callF (xs := [x]) (vs := [v]) he (by simp [vals, hx]) hs w (some d)
  simp only [wpList, Region.wanted, if_true]
  refine .inl ?_
  unfold Oper.wp
  rw [hrun]
  refine (hw.sorted hm hS hl).mono ?_
  rintro en w' ⟨rfl, hc⟩
  exact next _ hz h _ w' (hs.put hd _) hc
end
end Go.S
