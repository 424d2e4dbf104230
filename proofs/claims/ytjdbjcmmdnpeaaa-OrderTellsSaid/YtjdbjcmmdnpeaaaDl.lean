/-
  slices.Delete of ints that are owned, by its contract.
  Conditions: none.
-/
import Derived.Test.YtjdbjcmmdnpeaaaXc
namespace Go.S
open Go.Sort
set_option linter.unusedVariables false
set_option linter.unusedSimpArgs false
def xDel (l : List Int) (i j : Int) : Option (List Int) := if 0 ≤ i ∧ i < j ∧ j ≤ l.length ∧ l.length < 4611686018427387904 then some (l.take i.toNat ++ l.drop j.toNat) else none
theorem xDel_some {l r : List Int} {i j : Int} (h : xDel l i j = some r) : (0 ≤ i ∧ i < j ∧ j ≤ l.length ∧ l.length < 4611686018427387904) ∧ r = l.take i.toNat ++ l.drop j.toNat := by
  unfold xDel at h
  split at h
  · simp only [Option.some.injEq] at h; exact ⟨by assumption, h.symm⟩
  · cases h
def DelC (P : Program) (f : FuncId) : Prop :=
  ∀ (blk off cap i j : Nat) (zs : List Int) (w : World), Go.Sort.Holds (Value.int .i64) w blk off zs.toArray → zs.length ≤ cap → cap ≤ 9223372036854775807 → i ≤ j → j ≤ zs.length →
    Calls P f #[.slice (some ⟨blk, off, none⟩) zs.length cap, .int .i64 i, .int .i64 j] w fun e w' => e = .returned (.slice (some ⟨blk, off, none⟩) (zs.length - (j - i)) cap) ∧ ∃ q, w' = Go.Sort.putRow (Value.int .i64) (Sort.ahead w q) blk off (zs.take i ++ zs.drop j ++ List.replicate (j - i) 0).toArray
section
variable {P : Program} {Q : Exit → Act → World → Prop} {n : Nat} {fs : Fr} {t : TypeId} {ops : Array Oper} {rest : List Oper} {d : Nat} {pos : String} {af : Array Edge}
variable {w0 : World} {own : List Nat} {m : List As} {x y z : Operand} {e : TypeId} {i : Nat} {v : Value} {l : List Int} {f : FuncId} {ts : Array TypeId} {a b : Int}
theorem Cls.deleted {w : World} (h : Cls w0 own m w) (hm : m[i]? = some (.sl v e 1 (l.map I))) (hS : DelC P f) (ha : 0 ≤ a ∧ a < b ∧ b ≤ l.length ∧ l.length < 4611686018427387904) :
    Calls P f #[v, .int .i64 a, .int .i64 b] w fun en w' => ∃ v', en = .returned v' ∧ Cls w0 own (m.set i (.sl v' e 1 ((l.take a.toNat ++ l.drop b.toNat).map I))) w' := by
  obtain ⟨h0, hab, hbl, hl⟩ := ha
  obtain ⟨a, rfl⟩ := Int.eq_ofNat_of_zero_le h0
  obtain ⟨b, rfl⟩ := Int.eq_ofNat_of_zero_le (show 0 ≤ b by omega)
  simp only [Int.toNat_natCast]
  have hab' : a < b := by omega
  have hbl' : b ≤ l.length := by omega
  obtain ⟨hr, hln, h3⟩ := h.get hm
  rcases h3 with ⟨rfl, hn⟩ | ⟨g, cap, cur, rfl, hg, hh, hnc, hcm, hcs, htk⟩
  · have h0 : l = [] := by simpa using hn
    subst h0
    simp at hbl'
    omega
  · rw [List.length_map, Nat.mul_one, ints_flat] at htk
    rw [List.length_map] at hnc
    have hgl : g < w.heap.size := (Array.getElem?_eq_some_iff.1 hh).1
    rw [List.length_map]
    refine Calls.mono (hS g 0 cap a b l w (holds_of_blockI hh htk) hnc (by first | omega | (unfold maxLen at hcm; omega)) (Nat.le_of_lt hab') hbl') ?_
    rintro en w' ⟨rfl, q, rfl⟩
    refine ⟨_, rfl, ?_⟩
    have hsz : cur.size = cap * 1 := hcs
    generalize hts : l.take a ++ l.drop b ++ List.replicate (b - a) 0 = ts0
    have hcl : (l.take a ++ l.drop b).length = l.length - (b - a) := by simp only [List.length_append, List.length_take, List.length_drop]; omega
    have htl : ts0.length = l.length := by rw [← hts]; simp; omega
    have ho := ownsRow_sortedI (w := w) (base := 0) (g := g) (cap := cap) (n := q) (e := e) (os := #[]) (cur := cur) (ss := l) (ts := ts0) htl (Nat.zero_le _) hh hnc hcm hsz
    rw [grow_empty] at ho
    refine h.turn hm rfl rfl rfl rfl (by simp) (Nat.le_add_right _ _) (fun k hk => ?_) ⟨fun r hr => ?_, ?_⟩
    · have hne : k ≠ g := by
        intro hkg
        exact hk (by simp [As.foot, Value.ownBlock, hkg])
      simp [Go.Sort.putRow, Go.Sort.mapBlock, Sort.ahead, Array.getElem?_modify, Ne.symm hne]
    · obtain ⟨z, _, rfl⟩ := List.mem_map.1 hr; rfl
    · rw [List.length_map, ints_flat, hcl]
      obtain ⟨h1, h2⟩ := ho
      rcases h2 with ⟨h4, _⟩ | ⟨g', cap', cur', h4, h5, h6, h7, h8, h9, h10⟩
      · cases h4
      · cases h4
        refine ⟨by rw [List.length_map, hcl, Nat.mul_one], .inr ⟨_, _, cur', rfl, h5, h6, Nat.le_trans (Nat.sub_le _ _) h7, h8, h9, ?_⟩⟩
        rw [Nat.mul_one] at h10 ⊢
        have h11 : (cur'.toList.take l.length).take (l.length - (b - a)) = (ts0.map (Value.int .i64)).take (l.length - (b - a)) := by rw [h10]
        rw [List.take_take, Nat.min_eq_left (Nat.sub_le _ _)] at h11
        rw [h11, ← hts, List.map_append, List.take_left' (by rw [List.length_map, hcl])]
        
theorem L.delMD {ρ : Type} {r : ρ} {F : List Int → Option ρ} (h : bind1 (xDel l a b) F = some r) (hS : DelC P f) (hd : Nat.blt d n = true) (he : entB P f = true) (hx : val fs x = some v) (hm : m[i]? = some (.sl v e 1 (l.map I)))
    (hy : val fs y = some (.int .i64 a)) (hz : val fs z = some (.int .i64 b))
    (next : ∀ v' q, xDel l a b = some q → F q = some r → L P ops Q n (Cls w0 own (m.set i (.sl v' e 1 (q.map I)))) rest ((d, v') :: fs)) : L P ops Q n (Cls w0 own m) (⟨some d, .call ⟨.value (.func f), #[x, y, z], ts⟩, t, pos, af, none⟩ :: rest) fs := by
  obtain ⟨q, hq, h⟩ := bind1S h
  obtain ⟨hl, rfl⟩ := xDel_some hq
  intro ac w hs hw
  have hrun : (execOp ac.eval ⟨some d, .call ⟨.value (.func f), #[x, y, z], ts⟩, t, pos, af, none⟩).run P w = .ok (.enter f #[v, .int .i64 a, .int .i64 b]) w := run_callF (xs := [x, y, z]) (vs := [v, .int .i64 a, .int .i64 b]) he (by simp [vals, hx, hy, hz]) hs w (some d)
  simp only [wpList, Region.wanted, if_true]
  refine .inl ?_
  unfold Oper.wp
  rw [hrun]
  refine (hw.deleted hm hS hl).mono ?_
  rintro en w' ⟨v', rfl, hc⟩
  exact next v' _ hq h _ w' (hs.put hd _) hc
end
end Go.S
