/-
  slices.Delete, slices.Insert at elements of some cells that are owned, by their walks; a literal of two slices; zeros behind nil.
  Conditions: none.
-/
import Derived.Test.YtdebhhjbgbkbjaaIn
namespace Go.S
set_option linter.unusedVariables false
set_option linter.unusedSimpArgs false
def xDelR {α : Type} (l : List α) (a b : Int) : Option (List α) := if 0 ≤ a ∧ a < b ∧ b ≤ l.length ∧ l.length ≤ 1000000000 then some (l.take a.toNat ++ l.drop b.toNat) else none
theorem xDelR_some {α : Type} {l r : List α} {a b : Int} (h : xDelR l a b = some r) : (0 ≤ a ∧ a < b ∧ b ≤ l.length ∧ l.length ≤ 1000000000) ∧ r = l.take a.toNat ++ l.drop b.toNat := by
  unfold xDelR at h
  split at h
  · simp only [Option.some.injEq] at h; exact ⟨by assumption, h.symm⟩
  · cases h
def xInsR {α : Type} (l : List α) (a : Int) (x : α) : Option (List α) := if 0 ≤ a ∧ a ≤ l.length ∧ l.length ≤ 1000000000 then some (l.take a.toNat ++ [x] ++ l.drop a.toNat) else none
theorem xInsR_some {α : Type} {l r : List α} {a : Int} {x : α} (h : xInsR l a x = some r) : (0 ≤ a ∧ a ≤ l.length ∧ l.length ≤ 1000000000) ∧ r = l.take a.toNat ++ [x] ++ l.drop a.toNat := by
  unfold xInsR at h
  split at h
  · simp only [Option.some.injEq] at h; exact ⟨by assumption, h.symm⟩
  · cases h
def DelR {α : Type} (P : Program) (f : FuncId) (e : TypeId) (k : Nat) (row : α → List Value) : Prop :=
  ∀ (l : List α) (g cap a b : Nat) (w : World), a < b → b ≤ l.length → l.length ≤ cap → l.length ≤ 1000000000 → Cls w [g] [.sl (rv g l.length cap) e k (l.map row)] w →
    Calls P f [rv g l.length cap, .int .i64 (a : Nat), .int .i64 (b : Nat)].toArray w fun en w' => ∃ v', en = .returned v' ∧ Cls w [g] [.sl v' e k ((l.take a ++ l.drop b).map row)] w'
structure InsR {α : Type} (P : Program) (f : FuncId) (e : TypeId) (k : Nat) (row : α → List Value) : Prop where
  fin : ∀ (l : List α) (x : α) (g cap a : Nat) (v : Value) (w : World) (b : Nat), w.heap[b]? = some (.cells (row x).toArray e (0, 0)) → b ≠ g → a = l.length → l.length ≤ 1000000000 → Cls w [g] [.sl v e k (l.map row)] w →
    Calls P f [v, .int .i64 (a : Nat), sv b 1].toArray w fun en w' => ∃ v', en = .returned v' ∧ Cls w [g] [.sl v' e k ((l.take a ++ [x] ++ l.drop a).map row)] w'
  mid : ∀ (l : List α) (x : α) (g cap a : Nat) (v : Value) (w : World) (b : Nat), w.heap[b]? = some (.cells (row x).toArray e (0, 0)) → b ≠ g → a < l.length → l.length ≤ cap → l.length ≤ 1000000000 → Cls w [g] [.sl (rv g l.length cap) e k (l.map row)] w →
    Calls P f [rv g l.length cap, .int .i64 (a : Nat), sv b 1].toArray w fun en w' => ∃ v', en = .returned v' ∧ Cls w [g] [.sl v' e k ((l.take a ++ [x] ++ l.drop a).map row)] w'
section
variable {P : Program} {Q : Exit → Act → World → Prop} {n : Nat} {C : World → Prop} {fs : Fr} {t : TypeId} {ops : Array Oper} {rest : List Oper} {d : Nat} {pos : String} {af : Array Edge}
variable {w0 w w' : World} {own : List Nat} {m : List As} {x y z : Operand} {e tx : TypeId} {i j k by' g N cap : Nat} {v u v' : Value} {rows rows' : List (List Value)} {f : FuncId} {ts : Array TypeId}
theorem Cls.carve (hw : Cls w0 own m w) (hm : m[i]? = some (.sl v e k rows)) (hg : v.ownBlock.toList = [g] ∨ v.ownBlock.toList = []) : Cls w [g] [.sl v e k rows] w := by
  have hh := hw.get hm
  refine ⟨rfl, rfl, rfl, DR.refl _, Nat.le_refl _, fun _ _ _ => rfl, ?_, fun x hx => ?_⟩
  · rcases hg with h | h <;> simp [As.foot, h]
  · simp only [List.mem_singleton] at hx
    subst hx
    refine ⟨hh, fun b hb => .inr ?_⟩
    rcases hg with h | h
    · simpa [As.foot, h] using hb
    · simp [As.foot, h] at hb
/-- The row in hand turned, all else as it was. -/
theorem Cls.frameV (hw : Cls w0 own m w) (hm : m[i]? = some (.sl v e k rows)) (hg : v.ownBlock.toList = [g] ∨ (v.ownBlock.toList = [] ∧ g = w.heap.size)) (h : Cls w [g] [.sl v' e k rows'] w') : Cls w0 own (m.set i (.sl v' e k rows')) w' := by
  have hil := (List.getElem?_eq_some_iff.1 hm).1
  have hgm := hw.mine _ (List.mem_of_getElem? hm)
  have hg1 : w0.heap.size ≤ g ∨ g ∈ own := by
    rcases hg with h1 | h1
    · exact hgm.2 g (by simp [As.foot, h1])
    · left; rw [h1.2]; exact hw.size
  have hp : m.Perm (.sl v e k rows :: m.eraseIdx i) := by
    have hx := (List.getElem?_eq_some_iff.1 hm).2
    have := perm_head m i hil
    rwa [hx] at this
  have hp2 : (m.set i (.sl v' e k rows')).Perm (.sl v' e k rows' :: m.eraseIdx i) := by
    have := perm_head (m.set i (.sl v' e k rows')) i (by simpa using hil)
    rwa [List.getElem_set_self, eraseIdx_set_self] at this
  have hw1 := hw.perm hp.symm
  refine Cls.perm ?_ hp2
  have hnd := hw1.nodup
  rw [List.flatMap_cons, List.nodup_append] at hnd
  have hne : ∀ b ∈ (m.eraseIdx i).flatMap As.foot, b < w.heap.size ∧ b ≠ g := fun b hb => by
    have hlt := hw1.foot_lt b (by rw [List.flatMap_cons]; exact List.mem_append_right _ hb)
    refine ⟨hlt, fun hbg => ?_⟩
    rcases hg with h1 | h1
    · exact hnd.2.2 g (by simp [As.foot, h1]) b hb hbg.symm
    · omega
  refine ⟨h.os.trans hw.os, h.tape.trans hw.tape, h.output.trans hw.output, DR.trans hw.dr h.dr, Nat.le_trans hw.size h.size, fun q hq ho => ?_, ?_, fun x hx => ?_⟩
  · rw [h.old q (Nat.lt_of_lt_of_le hq hw.size) (by
      simp only [List.mem_singleton]
      rintro rfl
      rcases hg1 with h1 | h1
      · omega
      · exact ho h1), hw.old q hq ho]
  · rw [List.flatMap_cons, List.nodup_append]
    refine ⟨by have := h.nodup; simpa using this, hnd.2.1, fun a ha b hb hab => ?_⟩
    subst hab
    rcases (h.mine _ (List.mem_singleton.2 rfl)).2 a ha with h1 | h1
    · have := (hne a hb).1; omega
    · exact (hne a hb).2 (by simpa using h1)
  · rcases List.mem_cons.1 hx with rfl | hx
    · refine ⟨(h.mine _ (List.mem_singleton.2 rfl)).1, fun b hb => ?_⟩
      rcases (h.mine _ (List.mem_singleton.2 rfl)).2 b hb with h1 | h1
      · exact .inl (Nat.le_trans hw.size h1)
      · have : b = g := by simpa using h1
        rw [this]; exact hg1
    · refine ⟨As.holds_congr (hw1.mine x (List.mem_cons_of_mem _ hx)).1 fun b hb => ?_, (hw1.mine x (List.mem_cons_of_mem _ hx)).2⟩
      have hb' := hne b (List.mem_flatMap.2 ⟨x, hx, hb⟩)
      exact h.old b hb'.1 (by simpa using hb'.2)
theorem L.callIn {vs : List Value} {xs : List Operand} {R : Value → World → Prop} (hd : Nat.blt d n = true) (he : entB P f = true) (hx : vals fs xs = some vs)
    (hc : ∀ w, Cls w0 own m w → Calls P f vs.toArray w fun en w' => ∃ v', en = .returned v' ∧ R v' w') (next : ∀ v', L P ops Q n (R v') rest ((d, v') :: fs)) : L P ops Q n (Cls w0 own m) (⟨some d, .call ⟨.value (.func f), xs.toArray, ts⟩, t, pos, af, none⟩ :: rest) fs :=
  L.call hd he hx hc next
theorem L.delRD {α ρ : Type} {row : α → List Value} {l : List α} {a b : Int} {r : ρ} {F : List α → Option ρ} (h : bind1 (xDelR l a b) F = some r) (hS : DelR P f e k row) (hd : Nat.blt d n = true) (he : entB P f = true) (hx : val fs x = some v) (hm : m[i]? = some (.sl v e k (l.map row)))
    (hy : val fs y = some (.int .i64 a)) (hz : val fs z = some (.int .i64 b))
    (next : ∀ v' q, xDelR l a b = some q → F q = some r → L P ops Q n (Cls w0 own (m.set i (.sl v' e k (q.map row)))) rest ((d, v') :: fs)) : L P ops Q n (Cls w0 own m) (⟨some d, .call ⟨.value (.func f), #[x, y, z], ts⟩, t, pos, af, none⟩ :: rest) fs := by
  obtain ⟨q, hq, h⟩ := bind1S h
  obtain ⟨⟨h0, h1, h2, h3⟩, rfl⟩ := xDelR_some hq
  obtain ⟨a, rfl⟩ := Int.eq_ofNat_of_zero_le h0
  obtain ⟨b, rfl⟩ := Int.eq_ofNat_of_zero_le (show 0 ≤ b by omega)
  refine L.callIn (xs := [x, y, z]) (vs := [v, .int .i64 a, .int .i64 b]) (R := fun v' w' => Cls w0 own (m.set i (.sl v' e k ((l.take a ++ l.drop b).map row))) w') hd he (by simp [vals, hx, hy, hz]) (fun w hw => ?_) fun v' => next v' _ hq h
  obtain ⟨g, cap, rfl, hc, _⟩ := hw.row hm (by intro hn; have h9 := congrArg List.length hn; simp only [List.length_map, List.length_nil] at h9; omega)
  rw [List.length_map] at hc hm ⊢
  have hcv := hw.carve hm (g := g) (.inl rfl)
  refine (hS l g cap a b w (by omega) (by omega) hc (by omega) hcv).mono ?_
  rintro en w' ⟨v', rfl, h4⟩
  exact ⟨v', rfl, hw.frameV hm (.inl rfl) h4⟩
theorem L.insRD {α ρ : Type} {row : α → List Value} {l : List α} {x1 : α} {a : Int} {b : Nat} {r : ρ} {F : List α → Option ρ} (h : bind1 (xInsR l a x1) F = some r) (hS : InsR P f e k row) (hk : ∀ x, (row x).length = k) (hd : Nat.blt d n = true) (he : entB P f = true) (hx : val fs x = some v) (hm : m[i]? = some (.sl v e k (l.map row)))
    (hy : val fs y = some (.int .i64 a)) (hz : val fs z = some (sv b 1)) (hj : m[j]? = some (.sl (sv b 1) e k ([x1].map row))) (hij : i ≠ j)
    (next : ∀ v' q, xInsR l a x1 = some q → F q = some r → L P ops Q n (Cls w0 own (m.set i (.sl v' e k (q.map row)))) rest ((d, v') :: fs)) : L P ops Q n (Cls w0 own m) (⟨some d, .call ⟨.value (.func f), #[x, y, z], ts⟩, t, pos, af, none⟩ :: rest) fs := by
  obtain ⟨q, hq, h⟩ := bind1S h
  obtain ⟨⟨h0, h1, h2⟩, rfl⟩ := xInsR_some hq
  obtain ⟨a, rfl⟩ := Int.eq_ofNat_of_zero_le h0
  refine L.callIn (xs := [x, y, z]) (vs := [v, .int .i64 a, sv b 1]) (R := fun v' w' => Cls w0 own (m.set i (.sl v' e k ((l.take a ++ [x1] ++ l.drop a).map row))) w') hd he (by simp [vals, hx, hy, hz]) (fun w hw => ?_) fun v' => next v' _ hq h
  have hlit : w.heap[b]? = some (.cells (row x1).toArray e (0, 0)) := by
    obtain ⟨_, _, hown⟩ := hw.get hj
    rcases hown with ⟨h3, _⟩ | ⟨g', cap', cur, hv, _, hh, _, _, hcs, htk⟩
    · cases h3
    · simp only [sv, Value.slice.injEq, Option.some.injEq, Addr.mk.injEq] at hv
      obtain ⟨⟨rfl, _, _⟩, _, rfl⟩ := hv
      rw [hh]
      congr 2
      have h5 : cur.toList = row x1 := by
        simp only [List.map_cons, List.map_nil, List.length_singleton, Nat.one_mul, List.flatten_cons, List.flatten_nil, List.append_nil] at htk
        rw [← htk, List.take_of_length_le (by rw [Array.length_toList, hcs]; omega)]
      rw [← h5]
  have hbl : b < w.heap.size := (Array.getElem?_eq_some_iff.1 hlit).1
  have hne : ∀ g, v.ownBlock.toList = [g] → b ≠ g := by
    rintro g hg rfl
    have hil := (List.getElem?_eq_some_iff.1 hm).1
    have hx := (List.getElem?_eq_some_iff.1 hm).2
    have hp := perm_head m i hil
    rw [hx] at hp
    have hnd := (hw.perm hp.symm).nodup
    rw [List.flatMap_cons, List.nodup_append] at hnd
    exact hnd.2.2 b (by simp [As.foot, hg]) b (List.mem_flatMap.2 ⟨_, List.mem_eraseIdx_iff_getElem?.2 ⟨j, Ne.symm hij, hj⟩, by simp [As.foot, sv, Value.ownBlock]⟩) rfl
  have hcase : (v.ownBlock.toList = []) ∨ ∃ g, v.ownBlock.toList = [g] := by
    cases v.ownBlock with
    | none => exact .inl rfl
    | some g => exact .inr ⟨g, rfl⟩
  by_cases hend : a = l.length
  · rcases hcase with h9 | ⟨g, h9⟩
    · refine (hS.fin l x1 w.heap.size 0 a v w b hlit (by omega) hend (by omega) (hw.carve hm (.inr h9))).mono ?_
      rintro en w' ⟨v', rfl, h4⟩
      exact ⟨v', rfl, hw.frameV hm (.inr ⟨h9, rfl⟩) h4⟩
    · refine (hS.fin l x1 g 0 a v w b hlit (hne g h9) hend (by omega) (hw.carve hm (.inl h9))).mono ?_
      rintro en w' ⟨v', rfl, h4⟩
      exact ⟨v', rfl, hw.frameV hm (.inl h9) h4⟩
  · obtain ⟨g, cap, rfl, hc, _⟩ := hw.row hm (by intro hn; have h9 := congrArg List.length hn; simp only [List.length_map, List.length_nil] at h9; omega)
    rw [List.length_map] at hc hm hne ⊢
    refine (hS.mid l x1 g cap a (rv g l.length cap) w b hlit (hne g rfl) (by omega) hc (by omega) (hw.carve hm (.inl rfl))).mono ?_
    rintro en w' ⟨v', rfl, h4⟩
    exact ⟨v', rfl, hw.frameV hm (.inl rfl) h4⟩
/-- Two slices side by side. -/
def lit2 (v1 v2 : Value) : Nat → List Value
  | 0 => [v1]
  | _ => [v2]
end
end Go.S
