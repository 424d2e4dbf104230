/-
  Maps of ints; slices that can be read alone.
  Conditions: none.
-/
import Derived.Test.YtdebhhjbgbkbjaaT
import Derived.MapKept
namespace Go.S
set_option linter.unusedSimpArgs false
/-! ### Maps with keys of ints -/
def mget {α : Type} (l : List (Int × α)) (k : Int) (z : α) : α := match l.find? (fun p => decide (p.1 = k)) with
  | some p => p.2
  | none => z
def mhas {α : Type} (l : List (Int × α)) (k : Int) : Bool := l.any fun p => decide (p.1 = k)
def mset {α : Type} (l : List (Int × α)) (k : Int) (v : α) : List (Int × α) := if mhas l k = true then l.map (fun p => if p.1 = k then (k, v) else p) else l ++ [(k, v)]
def mdel {α : Type} (l : List (Int × α)) (k : Int) : List (Int × α) := l.filter fun p => !decide (p.1 = k)
abbrev VI (k : IntKind) (x : Int) : Value := .int k x
abbrev VB (b : Bool) : Value := .bool b
abbrev VA {α : Type} (row : α → List Value) (x : α) : Value := .agg (row x).toArray
def mrow {α : Type} (g : α → Value) (l : List (Int × α)) : List (Int × Value) := l.map fun p => (p.1, g p.2)
section
variable {α : Type} {g : α → Value} {l : List (Int × α)} {k a : Int} {v z : α}
theorem mhas_mrow : mhas (mrow g l) k = mhas l k := by simp only [mhas, mrow, List.any_map]; rfl
theorem mget_mrow : mget (mrow g l) k (g z) = g (mget l k z) := by
  unfold mget mrow
  rw [List.find?_map]
  have : ((fun p : Int × Value => decide (p.1 = k)) ∘ fun p : Int × α => (p.1, g p.2)) = fun p => decide (p.1 = k) := rfl
  rw [this]
  cases l.find? (fun p => decide (p.1 = k)) <;> rfl
theorem mset_mrow : mset (mrow g l) k (g v) = mrow g (mset l k v) := by
  unfold mset
  rw [mhas_mrow]
  split
  · simp only [mrow, List.map_map]
    refine List.map_congr_left fun p _ => ?_
    simp only [Function.comp]
    split <;> rfl
  · simp [mrow]
theorem mhas_iff : mhas l k = true ↔ ∃ p ∈ l, p.1 = k := by simp [mhas]
theorem mget_at (hn : (l.map (·.1)).Nodup) {j : Nat} (h : l[j]? = some (a, v)) : mget l a z = v := by
  have hm := List.mem_of_getElem? h
  unfold mget
  cases hf : l.find? (fun p => decide (p.1 = a)) with
  | none =>
    have := List.find?_eq_none.1 hf (a, v) hm
    simp at this
  | some p =>
    have hp := List.mem_of_find?_eq_some hf
    have hpa : p.1 = a := by simpa using List.find?_some hf
    have : ∀ (l : List (Int × α)), (l.map (·.1)).Nodup → ∀ p q : Int × α, p ∈ l → q ∈ l → p.1 = q.1 → p = q := by
      intro l
      induction l with
      | nil => intro _ p q hp; cases hp
      | cons c l ih =>
        intro hn p q hp hq hpq
        rw [List.map_cons, List.nodup_cons] at hn
        rcases List.mem_cons.1 hp with e1 | hp' <;> rcases List.mem_cons.1 hq with e2 | hq'
        · rw [e1, e2]
        · exact absurd (List.mem_map.2 ⟨q, hq', by rw [← hpq, e1]⟩) hn.1
        · exact absurd (List.mem_map.2 ⟨p, hp', by rw [hpq, e2]⟩) hn.1
        · exact ih hn.2 p q hp' hq' hpq
    rw [this l hn p (a, v) hp hm hpa]
theorem mget_none (h : ∀ p ∈ l, p.1 ≠ a) : mget l a z = z := by
  unfold mget
  rw [List.find?_eq_none.2 (fun p hp => by simpa using h p hp)]
theorem mset_at (hn : (l.map (·.1)).Nodup) {j : Nat} {u : α} (h : l[j]? = some (a, u)) : mset l a v = l.set j (a, v) := by
  have hm := List.mem_of_getElem? h
  unfold mset
  rw [if_pos (mhas_iff.2 ⟨_, hm, rfl⟩)]
  have : ∀ (l : List (Int × α)) (j : Nat), (l.map (·.1)).Nodup → l[j]? = some (a, u) → l.map (fun p => if p.1 = a then (a, v) else p) = l.set j (a, v) := by
    intro l
    induction l with
    | nil => intro j _ h; simp at h
    | cons c l ih =>
      intro j hn h
      rw [List.map_cons, List.nodup_cons] at hn
      cases j with
      | zero =>
        simp only [List.getElem?_cons_zero, Option.some.injEq] at h
        subst h
        have : l.map (fun p => if p.1 = a then (a, v) else p) = l := by
          rw [List.map_congr_left (g := id) (fun p hp => ?_)]
          · simp
          · have : p.1 ≠ a := fun e => hn.1 (List.mem_map.2 ⟨p, hp, e⟩)
            simp [this]
        simp [this]
      | succ j =>
        simp only [List.getElem?_cons_succ] at h
        have hc : c.1 ≠ a := fun e => hn.1 (List.mem_map.2 ⟨_, List.mem_of_getElem? h, e.symm⟩)
        simp [hc, ih j hn.2 h]
  exact this l j hn h
theorem mget_mset (l : List (Int × α)) (a : Int) (v : α) (k : Int) (z : α) : mget (mset l a v) k z = if k = a then v else mget l k z := by
  unfold mget mset
  by_cases h : mhas l a = true
  · rw [if_pos h, List.find?_map]
    obtain ⟨p0, hp0, hpa⟩ := mhas_iff.1 h
    have e1 : ((fun p : Int × α => decide (p.1 = k)) ∘ fun p : Int × α => if p.1 = a then (a, v) else p) = fun p => decide (p.1 = k) := by
      funext p
      simp only [Function.comp]
      split
      · rename_i hp; rw [hp]
      · rfl
    rw [e1]
    cases hf : l.find? (fun p => decide (p.1 = k)) with
    | none =>
      have hk : k ≠ a := fun e => by
        have := List.find?_eq_none.1 hf p0 hp0
        rw [e] at this; simp [hpa] at this
      simp [hk]
    | some p =>
      have hpk : p.1 = k := by simpa using List.find?_some hf
      by_cases hk : k = a
      · simp [hpk, hk]
      · have : ¬ p.1 = a := fun e => hk (hpk.symm.trans e)
        simp [this, hk]
  · rw [if_neg h, List.find?_append]
    have hno : ∀ p ∈ l, p.1 ≠ a := fun p hp e => h (mhas_iff.2 ⟨p, hp, e⟩)
    cases hf : l.find? (fun p => decide (p.1 = k)) with
    | none =>
      by_cases hk : k = a
      · subst hk; simp
      · simp [hk, show ¬ a = k from fun e => hk e.symm]
    | some p =>
      have hp := List.mem_of_find?_eq_some hf
      have hpk : p.1 = k := by simpa using List.find?_some hf
      have : k ≠ a := fun e => hno p hp (hpk.trans e)
      simp [this]
end
section
variable {P : Program} {Q : Exit → Act → World → Prop} {n : Nat} {fs : Fr} {C : World → Prop} {t : TypeId} {ops : Array Oper} {rest : List Oper} {d : Nat} {pos : String} {af : Array Edge}
variable {w0 : World} {own : List Nat} {m : List As} {x y z : Operand} {kt et tx : TypeId} {i b : Nat} {l : List (Int × Value)} {a : Int} {v : Value}
theorem Cls.allocO {w : World} (h : Cls w0 own m w) (o : Obj) (x : As) (hf : x.foot = [w.heap.size]) (hx : x.holds (w.alloc o)) : Cls w0 own (x :: m) (w.alloc o) := by
  have hk : ∀ k, k < w.heap.size → (w.alloc o).heap[k]? = w.heap[k]? := fun k hk => RowKit.Below.heap_alloc w _ k hk
  refine ⟨h.os, h.tape, h.output, h.dr, Nat.le_trans h.size (by simp), fun k hk' ho => ?_, ?_, fun y hy => ?_⟩
  · rw [hk k (Nat.lt_of_lt_of_le hk' h.size), h.old k hk' ho]
  · simp only [List.flatMap_cons, hf, List.singleton_append, List.nodup_cons]
    exact ⟨fun hb => Nat.lt_irrefl _ (h.foot_lt _ hb), h.nodup⟩
  · rcases List.mem_cons.1 hy with rfl | hy
    · refine ⟨hx, fun b hb => ?_⟩
      rw [hf, List.mem_singleton] at hb
      subst hb
      exact .inl h.size
    · exact ⟨As.holds_congr (h.mine y hy).1 fun b hb => hk b (As.holds_lt (h.mine y hy).1 b hb), (h.mine y hy).2⟩
theorem L.makeMap (hd : Nat.blt d n = true) (next : ∀ b, L P ops Q n (Cls w0 own (.mp b [] :: m)) rest ((d, .map (some b)) :: fs)) : L P ops Q n (Cls w0 own m) (⟨some d, .makeMap tx none, t, pos, af, none⟩ :: rest) fs :=
  L.fresh (val' := fun b => .map (some b)) hd (fun a w hs hw => by
    refine ⟨w.heap.size, _, ?_, hw.allocO (.map #[] 0) (.mp w.heap.size []) rfl ⟨#[], 0, ?_, MapKept.stamped_empty 0, rfl⟩⟩
    · simp only [execOp, Option.map_none]
      rfl
    · show (w.heap.push _)[w.heap.size]? = _
      simp) next
theorem nodup_under {α β : Type} (f : α → β) : ∀ l : List α, (l.map f).Nodup → l.Nodup
  | [], _ => List.nodup_nil
  | x :: l, h => by
    rw [List.map_cons, List.nodup_cons] at h
    exact List.nodup_cons.2 ⟨fun hx => h.1 (List.mem_map.2 ⟨x, hx, rfl⟩), nodup_under f l h.2⟩
theorem keys_nodup {es : Array MapEntry} {clock : Nat} (hs : MapKept.Stamped es clock) (he : es.toList.map (fun e => (e.key, e.val)) = l.map kvp) : (l.map (·.1)).Nodup := by
  have h1 : es.toList.map (·.key) = (l.map (·.1)).map (Value.int .i64) := by
    have := congrArg (List.map Prod.fst) he
    simpa [List.map_map, kvp, Function.comp_def] using this
  have h2 := hs.2.2
  rw [h1] at h2
  exact nodup_under _ _ h2
theorem isKeys {es : Array MapEntry} (he : es.toList.map (fun e => (e.key, e.val)) = l.map kvp) : ∀ e ∈ es.toList, MapKept.IsKey (.int .i64) e.key := by
  intro e hm
  have : (e.key, e.val) ∈ es.toList.map (fun e => (e.key, e.val)) := List.mem_map.2 ⟨e, hm, rfl⟩
  rw [he] at this
  obtain ⟨p, _, hp⟩ := List.mem_map.1 this
  have : e.key = .int .i64 p.1 := (Prod.mk.inj hp).1.symm
  rw [this]; rfl
/-- Where a key stands. -/
theorem find_spec (w : World) (hk : P.underlying kt = some (.int .i64)) {es : Array MapEntry} (he : es.toList.map (fun e => (e.key, e.val)) = l.map kvp) (a : Int) :
    ((Instr.findKey kt (.int .i64 a) es.toList).run P w = .ok none w ∧ (∀ p ∈ l, p.1 ≠ a) ∧ ∀ e ∈ es.toList, e.key ≠ .int .i64 a) ∨ ∃ j v e, (Instr.findKey kt (.int .i64 a) es.toList).run P w = .ok (some (j, v)) w ∧ l[j]? = some (a, v) ∧ es[j]? = some e ∧ e.key = .int .i64 a := by
  rcases MapKept.findNow_spec (k := .int .i64 a) (show MapKept.IsKey (.int .i64) (.int .i64 a) from rfl) es.toList 0 (isKeys he) with ⟨h1, h2⟩ | ⟨j, e, h1, h2, h3⟩
  · refine .inl ⟨MapKept.run_findKey hk h1, fun p hp heq => ?_, h2⟩
    have : kvp p ∈ es.toList.map (fun e => (e.key, e.val)) := by rw [he]; exact List.mem_map.2 ⟨p, hp, rfl⟩
    obtain ⟨e, hem, hee⟩ := List.mem_map.1 this
    exact h2 e hem (by rw [(Prod.mk.inj hee).1, heq])
  · have hj : (l.map kvp)[j]? = some (e.key, e.val) := by rw [← he, List.getElem?_map, h2]; rfl
    rw [List.getElem?_map] at hj
    cases hp : l[j]? with
    | none => rw [hp] at hj; cases hj
    | some p =>
      rw [hp] at hj
      simp only [Option.map_some, Option.some.injEq, kvp, Prod.mk.injEq] at hj
      obtain ⟨e1, e2⟩ := hj
      have hpa : p.1 = a := by rw [h3] at e1; simpa using e1
      refine .inr ⟨j, p.2, e, ?_, by rw [hp, ← hpa], by simpa using h2, h3⟩
      have := MapKept.run_findKey (P := P) (w := w) hk h1
      rwa [Nat.zero_add, ← e2] at this
/-- A map that is owned, ranged over or not. -/
structure Mpd (w : World) (b : Nat) (l : List (Int × Value)) (es : Array MapEntry) (clock : Nat) : Prop where
  here : w.heap[b]? = some (.map es clock)
  st : MapKept.Stamped es clock
  kv : es.toList.map (fun e => (e.key, e.val)) = l.map kvp
def mpOf : As → Option (Nat × List (Int × Value))
  | .mp b l => some (b, l)
  | .mi b _ l _ _ => some (b, l)
  | _ => none
theorem mpOf_some {w : World} {x : As} (h : mpOf x = some (b, l)) (hh : x.holds w) : ∃ es clock, Mpd w b l es clock := by
  cases x <;> simp only [mpOf, Option.some.injEq, Prod.mk.injEq, reduceCtorEq] at h
  · obtain ⟨rfl, rfl⟩ := h
    obtain ⟨es, clock, h1, h2, h3⟩ := hh
    exact ⟨es, clock, h1, h2, h3⟩
  · obtain ⟨rfl, rfl⟩ := h
    obtain ⟨es, clock, _, _, _, h1, h2, h3, _⟩ := hh
    exact ⟨es, clock, h1, h2, h3⟩
theorem run_zeroAt {z0 : Value} (hz : ((P.info? et).bind fun i => i.zero) = some z0) (w : World) : (zeroValue et).run P w = .ok z0 w := by
  cases hi : P.info? et with
  | none => rw [hi] at hz; cases hz
  | some inf =>
    rw [hi] at hz
    have hz' : inf.zero = some z0 := hz
    simp [zeroValue, typeInfo, hi, hz']
theorem Y.lookup0 {q : As} {z0 : Value} (hu : P.underlying tx = some (.map kt et)) (hk : P.underlying kt = some (.int .i64)) (hz : ((P.info? et).bind fun i => i.zero) = some z0) (hx : val fs x = some (.map (some b))) (hy : val fs y = some (.int .i64 a)) (hm : m[i]? = some q) (hq : mpOf q = some (b, l)) :
    Y P (.lookup tx x y false) t n fs (Cls w0 own m) (mget l a z0) :=
  Y.of fun d pos af g s w hs hw => by
    obtain ⟨es, clock, hb, hst, he⟩ := mpOf_some hq (hw.get hm)
    simp only [execOp, hs.eval hx, hs.eval hy]
    rcases find_spec (P := P) w hk he a with ⟨h1, h2, _⟩ | ⟨j, v, e, h1, h2, _⟩
    · simp [Instr.lookup, run_underlying hu, MapKept.run_getObj_map hb, MapKept.run_checkKey hk (show MapKept.IsKey (.int .i64) (.int .i64 a) from rfl), h1, run_zeroAt hz, mget_none h2]
    · simp [Instr.lookup, run_underlying hu, MapKept.run_getObj_map hb, MapKept.run_checkKey hk (show MapKept.IsKey (.int .i64) (.int .i64 a) from rfl), h1, mget_at (keys_nodup hst he) h2]
theorem mhas_none (h : ∀ p ∈ l, p.1 ≠ a) : mhas l a = false := by
  cases hh : mhas l a with
  | false => rfl
  | true =>
    obtain ⟨p, hp, e⟩ := mhas_iff.1 hh
    exact absurd e (h p hp)
section gen
variable {α : Type} {g : α → Value} {lm : List (Int × α)} {z0 v0 : α}
theorem Y.lookupM {q : As} (hu : P.underlying tx = some (.map kt et)) (hk : P.underlying kt = some (.int .i64)) (hz : ((P.info? et).bind fun i => i.zero) = some (g z0)) (hx : val fs x = some (.map (some b))) (hy : val fs y = some (.int .i64 a)) (hm : m[i]? = some q) (hq : mpOf q = some (b, mrow g lm)) :
    Y P (.lookup tx x y false) t n fs (Cls w0 own m) (g (mget lm a z0)) := by
  have := Y.lookup0 (t := t) (n := n) (w0 := w0) (own := own) hu hk hz hx hy hm hq
  rwa [mget_mrow] at this
end gen
theorem L.mapSet0 {kv : Operand} (hu : P.underlying tx = some (.map kt et)) (hk : P.underlying kt = some (.int .i64)) (hx : val fs x = some (.map (some b))) (hy : val fs y = some (.int .i64 a)) (hz : val fs kv = some v) (hm : m[i]? = some (.mp b l))
    (next : L P ops Q n (Cls w0 own (m.set i (.mp b (mset l a v)))) rest fs) : L P ops Q n (Cls w0 own m) (⟨none, .mapUpdate tx x y kv, t, pos, af, none⟩ :: rest) fs :=
  L.runsNone (fun s w hs hw => by
    obtain ⟨es, clock, hb, hst, he⟩ := hw.get hm
    have hn := keys_nodup hst he
    have hbl : b < w.heap.size := (Array.getElem?_eq_some_iff.1 hb).1
    have turned : ∀ (o : Obj), (As.mp b (mset l a v)).holds { w with heap := w.heap.setIfInBounds b o } → Cls w0 own (m.set i (.mp b (mset l a v))) { w with heap := w.heap.setIfInBounds b o } := fun o ho =>
      hw.turn hm rfl rfl rfl rfl (by simp) (Nat.le_refl _) (fun k hk => by simp only [As.foot, List.mem_singleton] at hk; exact Array.getElem?_setIfInBounds_ne (Ne.symm hk)) ho
    simp only [execOp, hs.eval hx, hs.eval hy, hs.eval hz]
    rcases find_spec (P := P) w hk he a with ⟨h1, h2, h2'⟩ | ⟨j, u, e, h1, h2, hes, hek⟩
    · refine ⟨_, by simp [Instr.mapUpdate, run_underlying hu, MapKept.run_getObj_map hb, MapKept.run_checkKey hk (show MapKept.IsKey (.int .i64) (.int .i64 a) from rfl), h1, MapKept.run_setObj_map _ hb], turned (.map (es.push { key := .int .i64 a, val := v, born := clock }) (clock + 1)) ?_⟩
      refine ⟨es.push { key := .int .i64 a, val := v, born := clock }, clock + 1, by simp [hbl], MapKept.stamped_push hst h2', ?_⟩
      unfold mset
      rw [if_neg (by rw [mhas_none h2]; simp)]
      simp [he, kvp]
    · refine ⟨_, by simp [Instr.mapUpdate, run_underlying hu, MapKept.run_getObj_map hb, MapKept.run_checkKey hk (show MapKept.IsKey (.int .i64) (.int .i64 a) from rfl), h1, hes, hek, MapKept.run_keyThatStays (show MapKept.IsKey (.int .i64) (.int .i64 a) from rfl), MapKept.run_setObj_map _ hb], turned (.map (es.modify j fun e => { e with key := .int .i64 a, val := v }) clock) ?_⟩
      refine ⟨es.modify j fun e => { e with key := .int .i64 a, val := v }, clock, by simp [hbl], MapKept.stamped_modify hst _ _ (fun _ _ => rfl) (fun e' _ he' => ?_), ?_⟩
      · rw [hes, Option.some.injEq] at he'; rw [← he', hek]
      · rw [mset_at hn h2, List.map_set, ← he]
        apply List.ext_getElem?
        intro q
        simp only [Array.toList_modify, List.getElem?_map, List.getElem?_modify, List.getElem?_set, List.length_map, Array.length_toList]
        by_cases hq : j = q
        · subst hq
          have hlt := (Array.getElem?_eq_some_iff.1 hes).1
          simp [hes, hlt, kvp]
        · simp [hq]) next
theorem L.mapSet {α : Type} {g : α → Value} {lm : List (Int × α)} {v0 : α} {kv : Operand} (hu : P.underlying tx = some (.map kt et)) (hk : P.underlying kt = some (.int .i64)) (hx : val fs x = some (.map (some b))) (hy : val fs y = some (.int .i64 a)) (hz : val fs kv = some (g v0)) (hm : m[i]? = some (.mp b (mrow g lm)))
    (next : L P ops Q n (Cls w0 own (m.set i (.mp b (mrow g (mset lm a v0))))) rest fs) : L P ops Q n (Cls w0 own m) (⟨none, .mapUpdate tx x y kv, t, pos, af, none⟩ :: rest) fs :=
  L.mapSet0 hu hk hx hy hz hm (by rw [mset_mrow]; exact next)

/-! ### A slice that can be read alone -/
theorem over_all : ∀ (vs c p : List Value), vs.length = c.length → over (p ++ c) p.length vs = p ++ vs
  | [], c, p, h => by
    have : c = [] := List.length_eq_zero_iff.1 (by simpa using h.symm)
    subst this; rfl
  | v :: vs, [], p, h => by simp at h
  | v :: vs, u :: c, p, h => by
    have e : (p ++ u :: c).set p.length v = (p ++ [v]) ++ c := by rw [List.set_append_right _ _ (Nat.le_refl _)]; simp
    have := over_all vs c (p ++ [v]) (by simpa using h)
    rw [over, e, show p.length + 1 = (p ++ [v]).length by simp, this]
    simp
end
end Go.S
