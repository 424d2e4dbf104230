/-
  Maps: delete; ranges over a map, in whatever order.
  Conditions: none.
-/
import Derived.Test.YtglbgeamiobldaaD
import Derived.Maps.RangeRun
namespace Go.S
set_option linter.unusedVariables false
set_option linter.unusedSimpArgs false
/-- The next one of some, whichever: all must lead to one answer. -/
def nxt {α ρ : Type} [DecidableEq ρ] (l : List α) (A : Option ρ) (B : α → List α → Option ρ) : Option ρ := match l with
  | [] => A
  | p :: q => if (List.range (q.length + 1)).all (fun j => match (p :: q)[j]? with
      | some x => decide (B x ((p :: q).eraseIdx j) = B p q)
      | none => true) = true then B p q else none
section
variable {α ρ : Type} [DecidableEq ρ] {l : List α} {A : Option ρ} {B : α → List α → Option ρ} {r : ρ}
@[simp] theorem nxt_nil : nxt [] A B = A := rfl
theorem nxt_some (h : nxt l A B = some r) : (l = [] → A = some r) ∧ ∀ (j : Nat) x, l[j]? = some x → B x (l.eraseIdx j) = some r := by
  cases l with
  | nil => exact ⟨fun _ => h, fun j x hx => by simp at hx⟩
  | cons p q =>
    refine ⟨fun h => (by cases h), fun j x hx => ?_⟩
    unfold nxt at h
    simp only at h
    split at h
    · rename_i hall
      have hj := (List.getElem?_eq_some_iff.1 hx).1
      have := List.all_eq_true.1 hall j (List.mem_range.2 (by simpa using hj))
      rw [hx] at this
      simp only [decide_eq_true_eq] at this
      rw [this]; exact h
    · cases h
/-- The same, of a map's entries. -/
def nxtM {α ρ : Type} [DecidableEq ρ] (l : List (Int × α)) (A : Option ρ) (B : Int → α → List (Int × α) → Option ρ) : Option ρ := nxt l A fun p q => B p.1 p.2 q
theorem nxt_ok (hl : l ≠ []) (hB : ∀ (j : Nat) x, l[j]? = some x → B x (l.eraseIdx j) = some r) : nxt l A B = some r := by
  cases l with
  | nil => exact absurd rfl hl
  | cons p q =>
    have h0 := hB 0 p rfl
    simp only [List.eraseIdx_zero, List.tail_cons] at h0
    unfold nxt
    simp only
    rw [if_pos, h0]
    refine List.all_eq_true.2 fun j hj => ?_
    cases hx : (p :: q)[j]? with
    | none => rfl
    | some x => simp only [decide_eq_true_eq]; rw [hB j x hx, h0]
end
section
variable {P : Program} {Q : Exit → Act → World → Prop} {n : Nat} {fs : Fr} {C : World → Prop} {t : TypeId} {ops : Array Oper} {rest : List Oper} {d : Nat} {pos : String} {af : Array Edge}
variable {w0 : World} {own : List Nat} {m : List As} {x y z : Operand} {kt et tx : TypeId} {i b : Nat} {l left : List (Int × Value)} {a : Int} {v : Value}
/-! ### delete -/
def keyIs (a : Int) : Value → Bool
  | .int .i64 b => decide (b = a)
  | _ => false
theorem keyIs_iff {v : Value} : keyIs a v = true ↔ v = .int .i64 a := by
  unfold keyIs
  split <;> simp_all
theorem keyIs_ne {v : Value} (h : v ≠ .int .i64 a) : keyIs a v = false := by
  cases hk : keyIs a v with
  | false => rfl
  | true => exact absurd (keyIs_iff.1 hk) h
theorem keyIs_eq : keyIs a (.int .i64 a) = true := keyIs_iff.2 rfl
theorem erase_kv {es : Array MapEntry} {clock : Nat} (hst : MapKept.Stamped es clock) (he : es.toList.map (fun e => (e.key, e.val)) = l.map kvp) {j : Nat} (h : l[j]? = some (a, v)) : (es.eraseIdxIfInBounds j).toList.map (fun e => (e.key, e.val)) = (mdel l a).map kvp ∧ (es.eraseIdxIfInBounds j).toList = es.toList.eraseIdx j := by
  have hlen : es.size = l.length := by have := congrArg List.length he; simpa using this
  have hj : j < es.size := by rw [hlen]; exact (List.getElem?_eq_some_iff.1 h).1
  have h2 : (es.eraseIdxIfInBounds j).toList = es.toList.eraseIdx j := by
    unfold Array.eraseIdxIfInBounds
    rw [dif_pos hj, Array.toList_eraseIdx]
  refine ⟨?_, h2⟩
  rw [h2, mdel_at (keys_nodup hst he) h, ChangeMaps.map_eraseIdx, ChangeMaps.map_eraseIdx, he]
theorem key_erase : ∀ (l : List MapEntry) (j : Nat) {e : MapEntry}, (l.map (·.key)).Nodup → l[j]? = some e → e.key = .int .i64 a → l.eraseIdx j = l.filter (fun e => !keyIs a e.key)
  | [], j, e, _, h, _ => by simp at h
  | c :: l, 0, e, hn, h, hek => by
    rw [List.map_cons, List.nodup_cons] at hn
    simp only [List.getElem?_cons_zero, Option.some.injEq] at h
    subst h
    have : l.filter (fun e => !keyIs a e.key) = l := List.filter_eq_self.2 fun p hp => by
      have : p.key ≠ .int .i64 a := fun e => hn.1 (List.mem_map.2 ⟨p, hp, e.trans hek.symm⟩)
      simp [keyIs_ne this]
    simp [hek, keyIs_eq, this]
  | c :: l, j + 1, e, hn, h, hek => by
    rw [List.map_cons, List.nodup_cons] at hn
    simp only [List.getElem?_cons_succ] at h
    have hc : c.key ≠ .int .i64 a := fun e' => hn.1 (List.mem_map.2 ⟨_, List.mem_of_getElem? h, by rw [hek, e']⟩)
    simp [keyIs_ne hc, key_erase l j hn.2 h hek]
theorem run_delete (w : World) {ty : TypeId} (hu : P.underlying tx = some (.map kt et)) (hk : P.underlying kt = some (.int .i64)) {es : Array MapEntry} {clock : Nat} (hM : Mpd w b l es clock) : ∃ es', (Builtin.delete_ #[tx, kt] ty #[.map (some b), .int .i64 a]).run P w = .ok (.tuple #[]) { w with heap := w.heap.setIfInBounds b (.map es' clock) } ∧
    MapKept.Stamped es' clock ∧ es'.toList.map (fun e => (e.key, e.val)) = (mdel l a).map kvp ∧ es'.toList = es.toList.filter (fun e => !keyIs a e.key) := by
  obtain ⟨hb, hst, he⟩ := hM
  rcases find_spec (P := P) w hk he a with ⟨h1, h2, h2'⟩ | ⟨j, u, e, h1, h2, hes, hek⟩
  · refine ⟨es, by simp [Builtin.delete_, run_underlying hu, MapKept.run_getObj_map hb, MapKept.run_checkKey hk (show MapKept.IsKey (.int .i64) (.int .i64 a) from rfl), h1, MapKept.run_setObj_map _ hb], hst, by rw [mdel_none h2]; exact he, ?_⟩
    exact (List.filter_eq_self.2 fun e he' => by simp [keyIs_ne (h2' e he')]).symm
  · obtain ⟨h3, h4⟩ := erase_kv hst he h2
    refine ⟨es.eraseIdxIfInBounds j, by simp [Builtin.delete_, run_underlying hu, MapKept.run_getObj_map hb, MapKept.run_checkKey hk (show MapKept.IsKey (.int .i64) (.int .i64 a) from rfl), h1, MapKept.run_setObj_map _ hb], MapKept.stamped_erase hst j, h3, ?_⟩
    rw [h4]
    exact key_erase _ _ hst.2.2 (by simpa using hes) hek
theorem L.mapDel0 (hu : P.underlying tx = some (.map kt et)) (hk : P.underlying kt = some (.int .i64)) (hx : val fs x = some (.map (some b))) (hy : val fs y = some (.int .i64 a)) (hm : m[i]? = some (.mp b l))
    (next : L P ops Q n (Cls w0 own (m.set i (.mp b (mdel l a)))) rest fs) : L P ops Q n (Cls w0 own m) (⟨none, .call ⟨.builtin .delete, #[x, y], #[tx, kt]⟩, t, pos, af, none⟩ :: rest) fs :=
  L.runsNoneV (fun s w hs hw => by
    obtain ⟨es, clock, hb, hst, he⟩ := hw.get hm
    obtain ⟨es', h1, h2, h3, _⟩ := run_delete (P := P) (a := a) (ty := t) w hu hk ⟨hb, hst, he⟩
    have hbl : b < w.heap.size := (Array.getElem?_eq_some_iff.1 hb).1
    refine ⟨.tuple #[], { w with heap := w.heap.setIfInBounds b (.map es' clock) }, ?_, hw.turn hm rfl rfl rfl rfl (by simp) (Nat.le_refl _) (fun k hk => by simp only [As.foot, List.mem_singleton] at hk; exact Array.getElem?_setIfInBounds_ne (Ne.symm hk)) ⟨es', clock, by simp [hbl], h2, h3⟩⟩
    · simp only [execOp, resolve, List.map_toArray, List.map_cons, List.map_nil, hs.eval hx, hs.eval hy]
      simp [invoke, builtin, h1]) next
theorem L.mapDel {α : Type} {g : α → Value} {lm : List (Int × α)} (hu : P.underlying tx = some (.map kt et)) (hk : P.underlying kt = some (.int .i64)) (hx : val fs x = some (.map (some b))) (hy : val fs y = some (.int .i64 a)) (hm : m[i]? = some (.mp b (mrow g lm)))
    (next : L P ops Q n (Cls w0 own (m.set i (.mp b (mrow g (mdel lm a))))) rest fs) : L P ops Q n (Cls w0 own m) (⟨none, .call ⟨.builtin .delete, #[x, y], #[tx, kt]⟩, t, pos, af, none⟩ :: rest) fs :=
  L.mapDel0 hu hk hx hy hm (by rw [mdel_mrow]; exact next)

/-! ### Ranges -/
theorem Cls.range {w : World} (h : Cls w0 own m w) (hm : m[i]? = some (.mp b l)) {es : Array MapEntry} {clock : Nat} (hb : w.heap[b]? = some (.map es clock)) : Cls w0 own (.mi b w.heap.size l l none :: m.eraseIdx i) (w.alloc (.mapIter (some b) clock #[] clock)) := by
  have hbl : b < w.heap.size := (Array.getElem?_eq_some_iff.1 hb).1
  have hk : ∀ k, k < w.heap.size → (w.alloc (.mapIter (some b) clock #[] clock)).heap[k]? = w.heap[k]? := fun k hk => RowKit.Below.heap_alloc w _ k hk
  have hp := asfoot_erase hm
  refine ⟨h.os, h.tape, h.output, h.dr, Nat.le_trans h.size (by simp), fun k hk' ho => ?_, ?_, fun y hy => ?_⟩
  · rw [hk k (Nat.lt_of_lt_of_le hk' h.size), h.old k hk' ho]
  · have h1 : (w.heap.size :: m.flatMap As.foot).Nodup := List.nodup_cons.2 ⟨fun hb => Nat.lt_irrefl _ (h.foot_lt _ hb), h.nodup⟩
    refine List.Perm.nodup (List.Perm.trans (List.Perm.cons _ hp.symm) ?_) h1
    simp only [As.foot, List.flatMap_cons, List.cons_append, List.nil_append]
    exact List.Perm.swap ..
  · rcases List.mem_cons.1 hy with rfl | hy
    · obtain ⟨es', clock', hb', hst, he⟩ := h.get hm
      rw [hb] at hb'
      obtain ⟨rfl, rfl⟩ : es = es' ∧ clock = clock' := by simpa using hb'
      refine ⟨⟨es, clock, clock, clock, #[], by rw [hk b hbl]; exact hb, hst, he, ?_, hst.1, Nat.le_refl _, Nat.le_refl _, ?_⟩, fun c hc => ?_⟩
      · show (w.heap.push _)[w.heap.size]? = _
        simp
      · exact ⟨by rw [List.filter_eq_self.2 (fun e _ => by simp)]; exact he, fun _ h => by cases h⟩
      · simp only [As.foot, List.mem_cons, List.not_mem_nil, or_false] at hc
        rcases hc with rfl | rfl
        · exact (h.mine _ (List.mem_of_getElem? hm)).2 _ (by simp [As.foot])
        · exact .inl h.size
    · have hy' := List.mem_of_mem_eraseIdx hy
      exact ⟨As.holds_congr (h.mine y hy').1 fun b hb => hk b (As.holds_lt (h.mine y hy').1 b hb), (h.mine y hy').2⟩
theorem L.range0 (hd : Nat.blt d n = true) (hu : P.underlying tx = some (.map kt et)) (hx : val fs x = some (.map (some b))) (hm : m[i]? = some (.mp b l))
    (next : ∀ r, L P ops Q n (Cls w0 own (.mi b r l l none :: m.eraseIdx i)) rest ((d, pt r 0) :: fs)) : L P ops Q n (Cls w0 own m) (⟨some d, .range tx x, t, pos, af, none⟩ :: rest) fs :=
  L.fresh (val' := fun r => pt r 0) hd (fun a w hs hw => by
    obtain ⟨es, clock, hb, hst, he⟩ := hw.get hm
    refine ⟨w.heap.size, _, ?_, hw.range hm hb⟩
    simp only [execOp, hs.eval hx]
    simp [run_range_map w tx kt et b es clock hu hb, pt]) next
theorem Cls.miMp {w : World} (h : Cls w0 own m w) {r : Nat} {cur : Option (Int × Value)} (hi : m[i]? = some (.mi b r l left cur)) : Cls w0 own (m.set i (.mp b l)) w := by
  have hp := asfoot_set (y := .mp b l) hi
  simp only [As.foot, List.cons_append, List.nil_append] at hp
  have hp' := (List.perm_cons b).1 hp
  refine h.re (fun c hc => hp'.mem_iff.1 (List.mem_cons_of_mem _ hc)) (List.nodup_cons.1 (hp'.nodup_iff.2 h.nodup)).2 fun y hy => ?_
  rcases List.mem_or_eq_of_mem_set hy with hy | rfl
  · exact (h.mine y hy).1
  · obtain ⟨es, clock, _, _, _, h1, h2, h3, _⟩ := h.get hi
    exact ⟨es, clock, h1, h2, h3⟩
theorem Cls.miNone {w : World} (h : Cls w0 own m w) {r : Nat} {cur : Option (Int × Value)} (hi : m[i]? = some (.mi b r l left cur)) : Cls w0 own (m.set i (.mi b r l left none)) w := by
  obtain ⟨es, clock, since, last, seen, h1, h2, h3, h4, h5, h6, h7, h8, _⟩ := h.get hi
  exact h.turn hi rfl rfl rfl rfl rfl (Nat.le_refl _) (fun _ _ => rfl) ⟨es, clock, since, last, seen, h1, h2, h3, h4, h5, h6, h7, h8, fun _ h => by cases h⟩
theorem filter_ne_erase {es : List MapEntry} (hn : (es.map (·.born)).Nodup) {j : Nat} {e : MapEntry} (h : es[j]? = some e) : es.filter (fun x => !(x.born == e.born)) = es.eraseIdx j := by
  induction es generalizing j with
  | nil => simp at h
  | cons c es ih =>
    rw [List.map_cons, List.nodup_cons] at hn
    cases j with
    | zero =>
      simp only [List.getElem?_cons_zero, Option.some.injEq] at h
      subst h
      have : es.filter (fun x => !(x.born == c.born)) = es := List.filter_eq_self.2 fun p hp => by
        have : p.born ≠ c.born := fun e => hn.1 (List.mem_map.2 ⟨p, hp, e⟩)
        simp [this]
      simp [this]
    | succ j =>
      simp only [List.getElem?_cons_succ] at h
      have hc : c.born ≠ e.born := fun e' => hn.1 (List.mem_map.2 ⟨_, List.mem_of_getElem? h, e'.symm⟩)
      simp [hc, ih hn.2 h]
theorem run_next_mi {w : World} {r : Nat} {cur : Option (Int × Value)} (ty : TypeId) (h : Cls w0 own m w) (hi : m[i]? = some (.mi b r l left cur)) :
    (left = [] ∧ (Instr.next (.pointer (some ⟨r, 0, none⟩)) false ty).run P w = .ok (.tuple #[.bool false]) w) ∨
    ∃ (j : Nat) (k : Int) (v : Value) (w' : World), left[j]? = some (k, v) ∧ (Instr.next (.pointer (some ⟨r, 0, none⟩)) false ty).run P w = .ok (.tuple #[.bool true, .int .i64 k, v]) w' ∧ Cls w0 own (m.set i (.mi b r l (left.eraseIdx j) (some (k, v)))) w' := by
  obtain ⟨es, clock, since, last, seen, hb, hst, he, hr, hold, hsl, hsc, hleft, _⟩ := h.get hi
  have hlf : (leftOf es seen).toList = es.toList.filter fun e => !seen.contains e.born := by unfold leftOf; rw [Array.toList_filter]
  have hbr : b ≠ r := by rintro rfl; rw [hb] at hr; cases hr
  rcases run_next_at (P := P) w ty r b since last seen es clock hr hb hold hsl with ⟨h1, h2⟩ | ⟨e, hel, w1, hw1, h2⟩
  · refine .inl ⟨?_, h2⟩
    have : (es.toList.filter fun e => !seen.contains e.born) = [] := by rw [← hlf]; simpa using h1
    rw [this] at hleft
    simpa using hleft.symm
  · rw [hlf] at hel
    obtain ⟨j, hj⟩ := List.getElem?_of_mem hel
    have hlj : (left.map kvp)[j]? = some (e.key, e.val) := by rw [← hleft, List.getElem?_map, hj]; rfl
    rw [List.getElem?_map] at hlj
    cases hp : left[j]? with
    | none => rw [hp] at hlj; cases hlj
    | some p =>
      rw [hp] at hlj
      simp only [Option.map_some, Option.some.injEq, kvp, Prod.mk.injEq] at hlj
      obtain ⟨e1, e2⟩ := hlj
      have hcl : Cls w0 own m w1 := by
        rcases hw1 with rfl | rfl
        · exact h
        · exact h.drew
      have hb1 : w1.heap[b]? = some (.map es clock) := by rcases hw1 with rfl | rfl <;> exact hb
      have hrl : r < w1.heap.size := by
        have : w1.heap[r]? = some (.mapIter (some b) since seen last) := by rcases hw1 with rfl | rfl <;> exact hr
        exact (Array.getElem?_eq_some_iff.1 this).1
      refine .inr ⟨j, p.1, p.2, ChangeMaps.setBlock w1 r (.mapIter (some b) since (seen.push e.born) clock), hp, by rw [h2, ← e1, ← e2], hcl.turn hi rfl rfl rfl rfl (by simp [ChangeMaps.setBlock]) (Nat.le_refl _) (fun k hk => ?_) ?_⟩
      · simp only [As.foot, List.mem_cons, List.not_mem_nil, or_false, not_or] at hk
        exact Array.getElem?_setIfInBounds_ne (Ne.symm hk.2)
      · refine ⟨es, clock, since, clock, seen.push e.born, ?_, hst, he, by simp [ChangeMaps.setBlock, hrl], hold, hsc, hsc, ?_, fun q hq => ⟨rfl, e, (List.mem_filter.1 hel).1, by cases hq; rw [kvp, e1, e2], by simp⟩⟩
        · show (w1.heap.setIfInBounds r _)[b]? = _
          rw [Array.getElem?_setIfInBounds_ne (Ne.symm hbr)]; exact hb1
        · have hnf : ((es.toList.filter fun e => !seen.contains e.born).map (·.born)).Nodup := (List.filter_sublist.map _).nodup hst.2.1
          have hfe := filter_ne_erase hnf hj
          rw [List.filter_filter] at hfe
          have e3 : (es.toList.filter fun x => !(seen.push e.born).contains x.born) = es.toList.filter (fun x => !(x.born == e.born) && !seen.contains x.born) := by
            apply List.filter_congr
            intro x _
            rw [contains_push]
            cases seen.contains x.born <;> cases (x.born == e.born) <;> rfl
          rw [e3, hfe, ChangeMaps.map_eraseIdx, hleft, ChangeMaps.map_eraseIdx]
section
variable {α ρ : Type} {g : α → Value} {lm left : List (Int × α)} [DecidableEq ρ] {A : Option ρ} {B : Int → α → List (Int × α) → Option ρ} {r : ρ} {rr : Nat}
theorem L.rangeM (hd : Nat.blt d n = true) (hu : P.underlying tx = some (.map kt et)) (hx : val fs x = some (.map (some b))) (hm : m[i]? = some (.mp b (mrow g lm)))
    (next : ∀ rr, L P ops Q n (Cls w0 own (.mi b rr (mrow g lm) (mrow g lm) none :: m.eraseIdx i)) rest ((d, pt rr 0) :: fs)) : L P ops Q n (Cls w0 own m) (⟨some d, .range tx x, t, pos, af, none⟩ :: rest) fs := L.range0 hd hu hx hm next
theorem L.nextM (h : nxtM left A B = some r) (hd : Nat.blt d n = true) (hx : val fs x = some (pt rr 0)) {cur : Option (Int × Value)} (hm : m[i]? = some (.mi b rr (mrow g lm) (mrow g left) cur))
    (k1 : A = some r → L P ops Q n (Cls w0 own (m.set i (.mp b (mrow g lm)))) rest ((d, .tuple #[.bool false]) :: fs))
    (k2 : ∀ k v q, B k v q = some r → L P ops Q n (Cls w0 own (m.set i (.mi b rr (mrow g lm) (mrow g q) (some (k, g v))))) rest ((d, .tuple #[.bool true, .int .i64 k, g v]) :: fs)) :
    L P ops Q n (Cls w0 own m) (⟨some d, .next x false, t, pos, af, none⟩ :: rest) fs := by
  obtain ⟨hA, hB⟩ := nxt_some h
  intro a w hs hw
  simp only [wpList, Region.wanted, if_true]
  refine .inl ?_
  unfold Oper.wp
  simp only [execOp, hs.eval hx, pt]
  rcases run_next_mi (P := P) t hw hm with ⟨h1, h2⟩ | ⟨j, k, v, w', h1, h2, h3⟩
  · have hl : left = [] := by simpa [mrow] using h1
    simp only [Sem.run_bind, h2, Result.andThen, Sem.run_pure, Oper.upon]
    exact k1 (hA hl) _ _ (hs.put hd _) (hw.miMp hm)
  · simp only [mrow, List.getElem?_map] at h1
    cases hp : left[j]? with
    | none => rw [hp] at h1; cases h1
    | some p =>
      rw [hp] at h1
      simp only [Option.map_some, Option.some.injEq, Prod.mk.injEq] at h1
      obtain ⟨rfl, rfl⟩ := h1
      simp only [Sem.run_bind, h2, Result.andThen, Sem.run_pure, Oper.upon]
      refine k2 p.1 p.2 (left.eraseIdx j) (hB j p hp) _ _ (hs.put hd _) ?_
      rw [show mrow g (left.eraseIdx j) = (mrow g left).eraseIdx j from ChangeMaps.map_eraseIdx ..]
      exact h3
/-- What the step handed out. -/
theorem Y.entryM {k0 : Int} {v0 : α} {left' : List (Int × Value)} (hx : val fs x = some (pt rr 0)) (hm : m[i]? = some (.mi b rr (mrow g lm) left' (some (k0, g v0)))) : Y P (.entry x) t n fs (Cls w0 own m) (.tuple #[.int .i64 k0, g v0]) :=
  Y.of fun d pos af g' s w hs hw => by
    obtain ⟨es, clock, since, last, seen, hb, hst, he, hr, hold, hsl, hsc, hleft, hcur⟩ := hw.get hm
    obtain ⟨hlast, e, hem, hek, hback⟩ := hcur _ rfl
    subst hlast
    have hf : es.find? (·.born == e.born) = some e := by rw [← Array.find?_toList]; exact find_born e es.toList hst.2.1 hem
    simp only [kvp, Prod.mk.injEq] at hek
    simp only [execOp, hs.eval hx, pt]
    simp [Instr.entry, getObj, Sem.run, hr, hb, hback, hf, Result.andThen, hek.1, hek.2]
/-- delete within a range -/
theorem L.mapDelI (hu : P.underlying tx = some (.map kt et)) (hk : P.underlying kt = some (.int .i64)) (hx : val fs x = some (.map (some b))) (hy : val fs y = some (.int .i64 a)) {cur : Option (Int × Value)} (hm : m[i]? = some (.mi b rr (mrow g lm) (mrow g left) cur))
    (next : L P ops Q n (Cls w0 own (m.set i (.mi b rr (mrow g (mdel lm a)) (mrow g (mdel left a)) none))) rest fs) : L P ops Q n (Cls w0 own m) (⟨none, .call ⟨.builtin .delete, #[x, y], #[tx, kt]⟩, t, pos, af, none⟩ :: rest) fs :=
  L.runsNoneV (fun s w hs hw => by
    obtain ⟨es, clock, since, last, seen, hb, hst, he, hr, hold, hsl, hsc, hleft, _⟩ := hw.get hm
    obtain ⟨es', h1, h2, h3, h4⟩ := run_delete (P := P) (a := a) (ty := t) w hu hk ⟨hb, hst, he⟩
    have hbl : b < w.heap.size := (Array.getElem?_eq_some_iff.1 hb).1
    have hbr : b ≠ rr := by rintro rfl; rw [hb] at hr; cases hr
    refine ⟨.tuple #[], { w with heap := w.heap.setIfInBounds b (.map es' clock) }, ?_, hw.turn hm rfl rfl rfl rfl (by simp) (Nat.le_refl _) (fun k hk => by
        simp only [As.foot, List.mem_cons, List.not_mem_nil, or_false, not_or] at hk
        exact Array.getElem?_setIfInBounds_ne (Ne.symm hk.1)) ⟨es', clock, since, last, seen, by simp [hbl], h2, by rw [h3, mdel_mrow], ?_, ?_, hsl, hsc, ?_, fun _ h => by cases h⟩⟩
    · simp only [execOp, resolve, List.map_toArray, List.map_cons, List.map_nil, hs.eval hx, hs.eval hy]
      simp [invoke, builtin, h1]
    · show (w.heap.setIfInBounds b _)[rr]? = _
      rw [Array.getElem?_setIfInBounds_ne hbr]; exact hr
    · intro e hem
      rw [h4] at hem
      exact hold e (List.mem_filter.1 hem).1
    · rw [h4, List.filter_filter, ← mdel_mrow]
      have e1 : (es.toList.filter fun e => !seen.contains e.born && !keyIs a e.key) = (es.toList.filter fun e => !seen.contains e.born).filter (fun e => !keyIs a e.key) := by
        rw [List.filter_filter]
        apply List.filter_congr
        intro e _
        exact Bool.and_comm ..
      rw [e1]
      have : ∀ (A : List MapEntry) (B : List (Int × Value)), A.map (fun e => (e.key, e.val)) = B.map kvp → (A.filter (fun e => !keyIs a e.key)).map (fun e => (e.key, e.val)) = (mdel B a).map kvp := by
        intro A
        induction A with
        | nil => intro B hB; cases B with
          | nil => rfl
          | cons p B => cases hB
        | cons e A ih =>
          intro B hB
          cases B with
          | nil => cases hB
          | cons p B =>
            simp only [List.map_cons, List.cons.injEq, kvp, Prod.mk.injEq] at hB
            obtain ⟨⟨hk1, hv1⟩, hrest⟩ := hB
            have ih' := ih B hrest
            unfold mdel at ih' ⊢
            by_cases hp : p.1 = a
            · simp [hk1, hp, keyIs_eq, ih']
            · have : e.key ≠ .int .i64 a := by rw [hk1]; simp [hp]
              rw [List.filter_cons_of_pos (by rw [keyIs_ne this]; rfl)]
              simp [hp, ih', hk1, hv1, kvp]
      exact this _ _ hleft) next
end
end
/-! ### Elements of array values -/
section
variable {P : Program} {n : Nat} {fs : Fr} {C : World → Prop} {t : TypeId} {x y : Operand} {tx te : TypeId} {α : Type} {row : α → List Value} {l : List α} {k len : Nat} {ik : IntKind} {a : Int}
theorem Y.idxArr1 {u : α} {p : Value} (hu : P.underlying tx = some (.array len te)) (ha : aggB P te false = true) (hs : szB P te 1 = true) (hx : val fs x = some (.agg (l.map row).flatten.toArray)) (hy : val fs y = some (.int ik a)) (hlen : ∀ z, (row z).length = 1) (hr : idxA len l a = some u) (hp : row u = [p]) :
    Y P (.index tx x y) t n fs C p :=
  Y.of fun d pos af g s w hs' hw => by
    obtain ⟨h0, h1, h2⟩ := idx_some (idxA_idx hr)
    have h3 := idxA_lt hr
    have hf : (l.map row).flatten[a.toNat * 1 + 0]? = some p := flatten_get _ _ _ _ _ (by intro r hr'; obtain ⟨z, _, rfl⟩ := List.mem_map.1 hr'; exact hlen z) (by rw [List.getElem?_map, h2]; rfl) (by rw [hp]; rfl)
    simp only [Nat.mul_one, Nat.add_zero] at hf
    simp only [execOp, hs'.eval hx, hs'.eval hy]
    simp [Instr.index, asIntOf, run_underlying hu, h0, h3, part, run_isAgg ha, run_sizeOf hs, hf]
end
end Go.S
