/-
  slices.Compact of ints that are owned, by its contract.
  Conditions: none.
-/
import Derived.Test.YtjdbjcmmdnpeaaaX
import Derived.Test.YtjdbjcmmdnpeaaaDp
import Derived.Lib.SlicesCompact
namespace Go.S
open Go.Sort
set_option linter.unusedVariables false
set_option linter.unusedSimpArgs false
def xCompact (l : List Int) : Option (List Int) := if l.length < 4611686018427387904 then some (Lib.compact l) else none
theorem xCompact_some {l r : List Int} (h : xCompact l = some r) : l.length < 4611686018427387904 ∧ r = Lib.compact l := by
  unfold xCompact at h
  split at h
  · simp only [Option.some.injEq] at h; exact ⟨by assumption, h.symm⟩
  · cases h
structure CompC (P : Program) (f : FuncId) : Prop where
  some' : ∀ (blk off cap : Nat) (zs : List Int) (w : World), Go.Sort.Holds (Value.int .i64) w blk off zs.toArray → zs.length ≤ 9223372036854775807 → zs.length ≤ cap →
    Calls P f #[.slice (some ⟨blk, off, none⟩) zs.length cap] w fun e w' => e = .returned (.slice (some ⟨blk, off, none⟩) (Lib.compact zs).length cap) ∧ ∃ q, w' = Go.Sort.putRow (Value.int .i64) (Sort.ahead w q) blk off (Lib.compact zs ++ List.replicate (zs.length - (Lib.compact zs).length) 0).toArray
  none' : ∀ (p : Option Addr) (cap : Nat) (w : World), Calls P f #[.slice p 0 cap] w fun e w' => e = .returned (.slice p 0 cap) ∧ w' = w
theorem compact_len (l : List Int) : (Lib.compact l).length ≤ l.length := by
  unfold Lib.compact Lib.compactUpTo
  rw [List.length_map]
  exact Nat.le_trans (List.length_filter_le _ _) (by simp)
theorem compact_mem (l : List Int) (x : Int) : x ∈ Lib.compact l ↔ x ∈ l := by
  unfold Lib.compact Lib.compactUpTo
  simp only [List.mem_map, List.mem_filter, List.mem_range]
  constructor
  · rintro ⟨j, ⟨hj, _⟩, rfl⟩
    have : l.toArray[j]! = l[j] := by simp [hj]
    rw [this]; exact List.getElem_mem hj
  · intro hx
    obtain ⟨j, hj, rfl⟩ := List.getElem_of_mem hx
    induction j with
    | zero => exact ⟨0, ⟨hj, by simp [Lib.keeps]⟩, by simp [hj]⟩
    | succ j ih =>
      by_cases h : l[j + 1] = l[j]
      · rw [h]; exact ih (by omega) (List.getElem_mem _)
      · exact ⟨j + 1, ⟨hj, by simp [Lib.keeps, hj, show j < l.length by omega, h]⟩, by simp [hj]⟩
section
variable {P : Program} {Q : Exit → Act → World → Prop} {n : Nat} {fs : Fr} {t : TypeId} {ops : Array Oper} {rest : List Oper} {d : Nat} {pos : String} {af : Array Edge}
variable {w0 : World} {own : List Nat} {m : List As} {x : Operand} {e : TypeId} {i : Nat} {v : Value} {l : List Int} {f : FuncId} {ts : Array TypeId}
theorem Cls.compacted {w : World} (h : Cls w0 own m w) (hm : m[i]? = some (.sl v e 1 (l.map I))) (hS : CompC P f) (hl : l.length < 4611686018427387904) :
    Calls P f #[v] w fun en w' => ∃ v', en = .returned v' ∧ Cls w0 own (m.set i (.sl v' e 1 ((Lib.compact l).map I))) w' := by
  obtain ⟨hr, hln, h3⟩ := h.get hm
  rcases h3 with ⟨rfl, hn⟩ | ⟨g, cap, cur, rfl, hg, hh, hnc, hcm, hcs, htk⟩
  · have h0 : l = [] := by simpa using hn
    subst h0
    refine Calls.mono (hS.none' none 0 w) ?_
    rintro en w' ⟨rfl, rfl⟩
    refine ⟨_, rfl, ?_⟩
    have : (As.sl (.slice none 0 0) e 1 ((Lib.compact ([] : List Int)).map I)) = As.sl (.slice none 0 0) e 1 (([] : List Int).map I) := by simp [Lib.compact, Lib.compactUpTo]
    rw [this, set_self hm]
    exact h
  · rw [List.length_map, Nat.mul_one, ints_flat] at htk
    rw [List.length_map] at hnc
    have hgl : g < w.heap.size := (Array.getElem?_eq_some_iff.1 hh).1
    have hcl := compact_len l
    rw [List.length_map]
    refine Calls.mono (hS.some' g 0 cap l w (holds_of_blockI hh htk) (by omega) hnc) ?_
    rintro en w' ⟨rfl, q, rfl⟩
    refine ⟨_, rfl, ?_⟩
    have hsz : cur.size = cap * 1 := hcs
    generalize hts : (Lib.compact l ++ List.replicate (l.length - (Lib.compact l).length) 0) = ts0
    have htl : ts0.length = l.length := by rw [← hts]; simp; omega
    have ho := ownsRow_sortedI (w := w) (base := 0) (g := g) (cap := cap) (n := q) (e := e) (os := #[]) (cur := cur) (ss := l) (ts := ts0) htl (Nat.zero_le _) hh hnc hcm hsz
    rw [grow_empty] at ho
    refine h.turn hm rfl rfl rfl rfl (by simp) (Nat.le_add_right _ _) (fun k hk => ?_) ⟨fun r hr => ?_, ?_⟩
    · have hne : k ≠ g := by
        intro hkg
        exact hk (by simp [As.foot, Value.ownBlock, hkg])
      simp [Go.Sort.putRow, Go.Sort.mapBlock, Sort.ahead, Array.getElem?_modify, Ne.symm hne]
    · obtain ⟨z, _, rfl⟩ := List.mem_map.1 hr; rfl
    · rw [List.length_map, ints_flat]
      obtain ⟨h1, h2⟩ := ho
      rcases h2 with ⟨h4, _⟩ | ⟨g', cap', cur', h4, h5, h6, h7, h8, h9, h10⟩
      · cases h4
      · cases h4
        refine ⟨by simp, .inr ⟨_, _, cur', rfl, h5, h6, Nat.le_trans hcl h7, h8, h9, ?_⟩⟩
        rw [Nat.mul_one] at h10 ⊢
        have h11 : (cur'.toList.take l.length).take (Lib.compact l).length = (ts0.map (Value.int .i64)).take (Lib.compact l).length := by rw [h10]
        rw [List.take_take, Nat.min_eq_left hcl] at h11
        rw [h11, ← hts, List.map_append, List.take_left' (by simp)]
theorem L.compactMD {ρ : Type} {r : ρ} {F : List Int → Option ρ} (h : bind1 (xCompact l) F = some r) (hS : CompC P f) (hd : Nat.blt d n = true) (he : entB P f = true) (hx : val fs x = some v) (hm : m[i]? = some (.sl v e 1 (l.map I)))
    (next : ∀ v' z, xCompact l = some z → F z = some r → L P ops Q n (Cls w0 own (m.set i (.sl v' e 1 (z.map I)))) rest ((d, v') :: fs)) : L P ops Q n (Cls w0 own m) (⟨some d, .call ⟨.value (.func f), #[x], ts⟩, t, pos, af, none⟩ :: rest) fs := by
  obtain ⟨z, hz, h⟩ := bind1S h
  obtain ⟨hl, rfl⟩ := xCompact_some hz
  intro a w hs hw
  have hrun : (execOp a.eval ⟨some d, .call ⟨.value (.func f), #[x], ts⟩, t, pos, af, none⟩).run P w = .ok (.enter f #[v]) w := run_callF (xs := [x]) (vs := [v]) he (by simp [vals, hx]) hs w (some d)
  simp only [wpList, Region.wanted, if_true]
  refine .inl ?_
  unfold Oper.wp
  rw [hrun]
  refine (hw.compacted hm hS hl).mono ?_
  rintro en w' ⟨v', rfl, hc⟩
  exact next v' _ hz h _ w' (hs.put hd _) hc
end
end Go.S
