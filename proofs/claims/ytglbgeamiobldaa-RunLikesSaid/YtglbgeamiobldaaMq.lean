/-
  Maps with keys that are structs.
  Conditions: none.
-/
import Derived.Test.YtglbgeamiobldaaU
import Derived.Test.YtglbgeamiobldaaE
namespace Go.S
set_option linter.unusedVariables false
set_option linter.unusedSimpArgs false
/-! ### Words -/
def kget {κ α : Type} [DecidableEq κ] (l : List (κ × α)) (k : κ) (z : α) : α := match l.find? (fun p => decide (p.1 = k)) with
  | some p => p.2
  | none => z
def khas {κ α : Type} [DecidableEq κ] (l : List (κ × α)) (k : κ) : Bool := l.any fun p => decide (p.1 = k)
def kset {κ α : Type} [DecidableEq κ] (l : List (κ × α)) (k : κ) (v : α) : List (κ × α) := if khas l k = true then l.map (fun p => if p.1 = k then (k, v) else p) else l ++ [(k, v)]
def krow {κ α : Type} (K : κ → Value) (g : α → Value) (l : List (κ × α)) : List (Value × Value) := l.map fun p => (K p.1, g p.2)
def nxtK {κ α ρ : Type} [DecidableEq ρ] (l : List (κ × α)) (A : Option ρ) (B : κ → α → List (κ × α) → Option ρ) : Option ρ := nxt l A fun p q => B p.1 p.2 q
section
variable {κ α : Type} [DecidableEq κ] {l : List (κ × α)} {k a : κ} {v z : α}
theorem khas_iff : khas l k = true ↔ ∃ p ∈ l, p.1 = k := by simp [khas]
theorem kget_at (hn : (l.map (·.1)).Nodup) {j : Nat} (h : l[j]? = some (a, v)) : kget l a z = v := by
  have hm := List.mem_of_getElem? h
  unfold kget
  cases hf : l.find? (fun p => decide (p.1 = a)) with
  | none =>
    have := List.find?_eq_none.1 hf (a, v) hm
    simp at this
  | some p =>
    have hp := List.mem_of_find?_eq_some hf
    have hpa : p.1 = a := by simpa using List.find?_some hf
    have : ∀ (l : List (κ × α)), (l.map (·.1)).Nodup → ∀ p q : κ × α, p ∈ l → q ∈ l → p.1 = q.1 → p = q := by
      intro l
      induction l with
      | nil => intro _ p q hp; cases hp
      | cons c l ih =>
        intro hn p q hp hq hpq
        rw [List.map_cons, List.nodup_cons] at hn
        rcases List.mem_cons.1 hp with e1 | hp' <;> rcases List.mem_cons.1 hq with e2 | hq'
        · rw [e1, e2]
        · exact absurd (List.mem_map.2 ⟨q, hq', by rw [← hpq, e1]⟩) hn.1
        · exact absurd (List.mem_map.2 ⟨p, hp', by rw [hpq, e2]⟩) hn.1
        · exact ih hn.2 p q hp' hq' hpq
    rw [this l hn p (a, v) hp hm hpa]
theorem kget_none (h : ∀ p ∈ l, p.1 ≠ a) : kget l a z = z := by
  unfold kget
  rw [List.find?_eq_none.2 (fun p hp => by simpa using h p hp)]
theorem kset_at (hn : (l.map (·.1)).Nodup) {j : Nat} {u : α} (h : l[j]? = some (a, u)) : kset l a v = l.set j (a, v) := by
  have hm := List.mem_of_getElem? h
  unfold kset
  rw [if_pos (khas_iff.2 ⟨_, hm, rfl⟩)]
  have : ∀ (l : List (κ × α)) (j : Nat), (l.map (·.1)).Nodup → l[j]? = some (a, u) → l.map (fun p => if p.1 = a then (a, v) else p) = l.set j (a, v) := by
    intro l
    induction l with
    | nil => intro j _ h; simp at h
    | cons c l ih =>
      intro j hn h
      rw [List.map_cons, List.nodup_cons] at hn
      cases j with
      | zero =>
        simp only [List.getElem?_cons_zero, Option.some.injEq] at h
        subst h
        have : l.map (fun p => if p.1 = a then (a, v) else p) = l := by
          rw [List.map_congr_left (g := id) (fun p hp => ?_)]
          · simp
          · have : p.1 ≠ a := fun e => hn.1 (List.mem_map.2 ⟨p, hp, e⟩)
            simp [this]
        simp [this]
      | succ j =>
        simp only [List.getElem?_cons_succ] at h
        have hc : c.1 ≠ a := fun e => hn.1 (List.mem_map.2 ⟨_, List.mem_of_getElem? h, e.symm⟩)
        simp [hc, ih j hn.2 h]
  exact this l j hn h
theorem khas_none (h : ∀ p ∈ l, p.1 ≠ a) : khas l a = false := by
  cases hh : khas l a with
  | false => rfl
  | true =>
    obtain ⟨p, hp, e⟩ := khas_iff.1 hh
    exact absurd e (h p hp)
end
/-! ### Keys -/
/-- What a type of keys must be: a struct of numbers. -/
structure KeyT (P : Program) (kt : TypeId) {κ : Type} (row : κ → List Value) : Prop where
  un : ∃ fs, P.underlying kt = some (.struct fs)
  ag : aggB P kt true = true
  sh : ∀ x, shB P 5 kt (row x) = true
  inj : ∀ x y, row x = row y → x = y
  chk : ∀ x (e : Bool) (w : World), (Instr.checkKey e 10000 kt (VA row x)).run P w = .ok () w
  ints : ∀ x, ∀ v ∈ row x, ∃ k a, v = .int k a
theorem sameBits_ints (n : Nat) (l : List Value) (h : ∀ v ∈ l, ∃ k a, v = .int k a) : Instr.sameBits (n + 1) (.agg l.toArray) (.agg l.toArray) = true := by
  unfold Instr.sameBits
  have : (l.zip l).all (fun x => Instr.sameBits n x.1 x.2) = true := by
    rw [List.all_eq_true]
    intro p hp
    have h1 : p.1 = p.2 ∧ p.1 ∈ l := by
      clear h
      induction l with
      | nil => cases hp
      | cons c l ih =>
        rw [List.zip_cons_cons] at hp
        rcases List.mem_cons.1 hp with e | e
        · rw [e]; exact ⟨rfl, List.mem_cons_self ..⟩
        · exact ⟨(ih e).1, List.mem_cons_of_mem _ (ih e).2⟩
    obtain ⟨k, a, e⟩ := h p.1 h1.2
    rw [← h1.1, e]
    cases n <;> simp [Instr.sameBits]
  simpa using this
section
variable {P : Program} {κ : Type} {row : κ → List Value} {kt : TypeId}
theorem KeyT.vinj (h : KeyT P kt row) {x y : κ} (e : VA row x = VA row y) : x = y := h.inj x y (by
  have : (row x).toArray = (row y).toArray := by injection e
  simpa using this)
theorem KeyT.stays (h : KeyT P kt row) (x : κ) (w : World) : (Instr.keyThatStays (VA row x) (VA row x)).run P w = .ok (VA row x) w := by
  have := sameBits_ints 9999 (row x) (h.ints x)
  simp [Instr.keyThatStays, VA, show (10000 : Nat) = 9999 + 1 from rfl, this]
variable [DecidableEq κ]
theorem KeyT.equal (h : KeyT P kt row) (x y : κ) (w : World) : (Op.equal kt (VA row x) (VA row y)).run P w = .ok (decide (x = y)) w := by
  obtain ⟨r, hr, hi⟩ := eqDeep 9995 5 kt w _ _ _ _ (h.sh x) (h.sh y) (.inl ⟨h.ag, rfl⟩) (.inl ⟨h.ag, rfl⟩)
  have e : decide (x = y) = r := by
    cases r with
    | true => exact decide_eq_true (h.inj _ _ (hi.1 rfl))
    | false => exact decide_eq_false fun c => by have := hi.2 (by rw [c]); cases this
  rw [e]
  exact hr
theorem KeyT.asking (h : KeyT P kt row) (a : κ) (w : World) : ∀ (es : List MapEntry) (i : Nat), (∀ e ∈ es, ∃ y, e.key = VA row y) →
    ((Instr.findAsking kt (VA row a) es i).run P w = .ok none w ∧ ∀ e ∈ es, e.key ≠ VA row a) ∨ ∃ j e, (Instr.findAsking kt (VA row a) es i).run P w = .ok (some (i + j, e.val)) w ∧ es[j]? = some e ∧ e.key = VA row a
  | [], i, _ => .inl ⟨by simp [Instr.findAsking], by simp⟩
  | e :: es, i, hk => by
    obtain ⟨y, hy⟩ := hk e (List.mem_cons_self ..)
    have heq := h.equal a y w
    rw [← hy] at heq
    by_cases c : a = y
    · refine .inr ⟨0, e, ?_, rfl, by rw [hy, c]⟩
      rw [decide_eq_true c] at heq
      simp [Instr.findAsking, heq]
    · rw [decide_eq_false c] at heq
      have hne : e.key ≠ VA row a := fun q => c (h.vinj (by rw [← q, hy]))
      rcases h.asking a w es (i + 1) (fun e he => hk e (List.mem_cons_of_mem _ he)) with ⟨h1, h2⟩ | ⟨j, e', h1, h2, h3⟩
      · refine .inl ⟨by simp [Instr.findAsking, heq, h1], fun e' he' => ?_⟩
        rcases List.mem_cons.1 he' with q | q
        · rw [q]; exact hne
        · exact h2 e' q
      · exact .inr ⟨j + 1, e', by simp [Instr.findAsking, heq, h1, Nat.add_assoc, Nat.add_comm 1 j], by simpa using h2, h3⟩
theorem KeyT.finds (h : KeyT P kt row) (a : κ) (w : World) (es : List MapEntry) (hk : ∀ e ∈ es, ∃ y, e.key = VA row y) :
    ((Instr.findKey kt (VA row a) es).run P w = .ok none w ∧ ∀ e ∈ es, e.key ≠ VA row a) ∨ ∃ j e, (Instr.findKey kt (VA row a) es).run P w = .ok (some (j, e.val)) w ∧ es[j]? = some e ∧ e.key = VA row a := by
  obtain ⟨fs, hu⟩ := h.un
  cases es with
  | nil => exact .inl ⟨by simp [Instr.findKey, run_underlying hu, Instr.findNow], by simp⟩
  | cons e es =>
    obtain ⟨y, hy⟩ := hk e (List.mem_cons_self ..)
    have hn : Instr.findNow (.struct fs) (VA row a) (e :: es) 0 = none := by
      rw [Instr.findNow, hy]
      rfl
    have e1 : (Instr.findKey kt (VA row a) (e :: es)).run P w = (Instr.findAsking kt (VA row a) (e :: es) 0).run P w := by
      simp [Instr.findKey, run_underlying hu, hn]
    rw [e1]
    rcases h.asking a w (e :: es) 0 hk with h1 | ⟨j, e', h1, h2, h3⟩
    · exact .inl h1
    · exact .inr ⟨j, e', by rw [h1, Nat.zero_add], h2, h3⟩
end
section
variable {P : Program} {Q : Exit → Act → World → Prop} {n : Nat} {fs : Fr} {C : World → Prop} {t : TypeId} {ops : Array Oper} {rest : List Oper} {d : Nat} {pos : String} {af : Array Edge}
variable {w0 : World} {own : List Nat} {m : List As} {x y z : Operand} {kt et tx : TypeId} {i b : Nat} {l left : List (Value × Value)}
theorem L.makeMapq (hd : Nat.blt d n = true) (next : ∀ b, L P ops Q n (Cls w0 own (.mq b [] :: m)) rest ((d, .map (some b)) :: fs)) : L P ops Q n (Cls w0 own m) (⟨some d, .makeMap tx none, t, pos, af, none⟩ :: rest) fs :=
  L.fresh (val' := fun b => .map (some b)) hd (fun a w hs hw => by
    refine ⟨w.heap.size, _, ?_, hw.allocO (.map #[] 0) (.mq w.heap.size []) rfl ⟨#[], 0, ?_, MapKept.stamped_empty 0, rfl⟩⟩
    · simp only [execOp, Option.map_none]
      rfl
    · show (w.heap.push _)[w.heap.size]? = _
      simp) next
/-- A map that is owned, ranged over or not. -/
structure Mpq (w : World) (b : Nat) (l : List (Value × Value)) (es : Array MapEntry) (clock : Nat) : Prop where
  here : w.heap[b]? = some (.map es clock)
  st : MapKept.Stamped es clock
  kv : es.toList.map (fun e => (e.key, e.val)) = l
def mqOf : As → Option (Nat × List (Value × Value))
  | .mq b l => some (b, l)
  | .mqi b _ l _ _ => some (b, l)
  | _ => none
theorem mqOf_some {w : World} {x : As} {l : List (Value × Value)} (h : mqOf x = some (b, l)) (hh : x.holds w) : ∃ es clock, Mpq w b l es clock := by
  cases x <;> simp only [mqOf, Option.some.injEq, Prod.mk.injEq, reduceCtorEq] at h
  · obtain ⟨rfl, rfl⟩ := h
    obtain ⟨es, clock, h1, h2, h3⟩ := hh
    exact ⟨es, clock, h1, h2, h3⟩
  · obtain ⟨rfl, rfl⟩ := h
    obtain ⟨es, clock, _, _, _, h1, h2, h3, _⟩ := hh
    exact ⟨es, clock, h1, h2, h3⟩
section gen
variable {κ : Type} {row : κ → List Value} {α : Type} {g : α → Value} {lm : List (κ × α)} {z0 v0 : α} {a : κ}
theorem krow_keys {es : Array MapEntry} (he : es.toList.map (fun e => (e.key, e.val)) = krow (VA row) g lm) : ∀ e ∈ es.toList, ∃ y, e.key = VA row y := by
  intro e hm
  have : (e.key, e.val) ∈ es.toList.map (fun e => (e.key, e.val)) := List.mem_map.2 ⟨e, hm, rfl⟩
  rw [he] at this
  obtain ⟨p, _, hp⟩ := List.mem_map.1 this
  exact ⟨p.1, (Prod.mk.inj hp).1.symm⟩
theorem kkeys_nodup {es : Array MapEntry} {clock : Nat} (hs : MapKept.Stamped es clock) (he : es.toList.map (fun e => (e.key, e.val)) = krow (VA row) g lm) : (lm.map (·.1)).Nodup := by
  have h1 : es.toList.map (·.key) = (lm.map (·.1)).map (VA row) := by
    have := congrArg (List.map Prod.fst) he
    simpa [List.map_map, krow, Function.comp_def] using this
  have h2 := hs.2.2
  rw [h1] at h2
  exact nodup_under _ _ h2
theorem Y.lenMpMq {q : As} (hu : P.underlying tx = some (.map kt et)) (hx : val fs x = some (.map (some b))) (hm : m[i]? = some q) (hq : mqOf q = some (b, krow (VA row) g lm)) : Y P (.call ⟨.builtin .len, #[x], #[tx]⟩) t n fs (Cls w0 own m) (.int .i64 lm.length) :=
  Y.of fun d pos af g' s w hs hw => by
    obtain ⟨es, clock, hb, hst, he⟩ := mqOf_some hq (hw.get hm)
    have hlen : es.size = lm.length := by have := congrArg List.length he; simpa [krow] using this
    simp only [execOp, resolve, List.map_toArray, List.map_cons, List.map_nil, hs.eval hx]
    simp [invoke, builtin, Builtin.len_, run_underlying hu, MapKept.run_getObj_map hb, goInt, hlen]
variable [DecidableEq κ]
/-- Where a key stands. -/
theorem kfind_spec (w : World) (hk : KeyT P kt row) {es : Array MapEntry} (he : es.toList.map (fun e => (e.key, e.val)) = krow (VA row) g lm) (a : κ) :
    ((Instr.findKey kt (VA row a) es.toList).run P w = .ok none w ∧ (∀ p ∈ lm, p.1 ≠ a) ∧ ∀ e ∈ es.toList, e.key ≠ VA row a) ∨ ∃ j v e, (Instr.findKey kt (VA row a) es.toList).run P w = .ok (some (j, g v)) w ∧ lm[j]? = some (a, v) ∧ es[j]? = some e ∧ e.key = VA row a := by
  rcases hk.finds a w es.toList (krow_keys he) with ⟨h1, h2⟩ | ⟨j, e, h1, h2, h3⟩
  · refine .inl ⟨h1, fun p hp heq => ?_, h2⟩
    have : (VA row p.1, g p.2) ∈ es.toList.map (fun e => (e.key, e.val)) := by rw [he]; exact List.mem_map.2 ⟨p, hp, rfl⟩
    obtain ⟨e, hem, hee⟩ := List.mem_map.1 this
    exact h2 e hem (by rw [(Prod.mk.inj hee).1, heq])
  · have hj : (krow (VA row) g lm)[j]? = some (e.key, e.val) := by rw [← he, List.getElem?_map, h2]; rfl
    rw [krow, List.getElem?_map] at hj
    cases hp : lm[j]? with
    | none => rw [hp] at hj; cases hj
    | some p =>
      rw [hp] at hj
      simp only [Option.map_some, Option.some.injEq, Prod.mk.injEq] at hj
      obtain ⟨e1, e2⟩ := hj
      have hpa : p.1 = a := hk.vinj (by rw [← h3, e1])
      exact .inr ⟨j, p.2, e, by rw [h1, e2], by rw [hp, ← hpa], by simpa using h2, h3⟩
theorem Y.lookupMq {q : As} (hu : P.underlying tx = some (.map kt et)) (hk : KeyT P kt row) (hz : ((P.info? et).bind fun i => i.zero) = some (g z0)) (hx : val fs x = some (.map (some b))) (hy : val fs y = some (VA row a)) (hm : m[i]? = some q) (hq : mqOf q = some (b, krow (VA row) g lm)) :
    Y P (.lookup tx x y false) t n fs (Cls w0 own m) (g (kget lm a z0)) :=
  Y.of fun d pos af g' s w hs hw => by
    obtain ⟨es, clock, hb, hst, he⟩ := mqOf_some hq (hw.get hm)
    simp only [execOp, hs.eval hx, hs.eval hy]
    rcases kfind_spec (P := P) w hk he a with ⟨h1, h2, _⟩ | ⟨j, v, e, h1, h2, _⟩
    · simp [Instr.lookup, run_underlying hu, MapKept.run_getObj_map hb, hk.chk, h1, run_zeroAt hz, kget_none h2]
    · simp [Instr.lookup, run_underlying hu, MapKept.run_getObj_map hb, hk.chk, h1, kget_at (kkeys_nodup hst he) h2]
theorem Y.lookupOkq {q : As} (hu : P.underlying tx = some (.map kt et)) (hk : KeyT P kt row) (hz : ((P.info? et).bind fun i => i.zero) = some (g z0)) (hx : val fs x = some (.map (some b))) (hy : val fs y = some (VA row a)) (hm : m[i]? = some q) (hq : mqOf q = some (b, krow (VA row) g lm)) :
    Y P (.lookup tx x y true) t n fs (Cls w0 own m) (.tuple #[g (kget lm a z0), .bool (khas lm a)]) :=
  Y.of fun d pos af g' s w hs hw => by
    obtain ⟨es, clock, hb, hst, he⟩ := mqOf_some hq (hw.get hm)
    simp only [execOp, hs.eval hx, hs.eval hy]
    rcases kfind_spec (P := P) w hk he a with ⟨h1, h2, _⟩ | ⟨j, v, e, h1, h2, _⟩
    · simp [Instr.lookup, run_underlying hu, MapKept.run_getObj_map hb, hk.chk, h1, run_zeroAt hz, kget_none h2, khas_none h2]
    · have : khas lm a = true := khas_iff.2 ⟨_, List.mem_of_getElem? h2, rfl⟩
      simp [Instr.lookup, run_underlying hu, MapKept.run_getObj_map hb, hk.chk, h1, kget_at (kkeys_nodup hst he) h2, this]
theorem L.mapSetq {kv : Operand} (hu : P.underlying tx = some (.map kt et)) (hk : KeyT P kt row) (hx : val fs x = some (.map (some b))) (hy : val fs y = some (VA row a)) (hz : val fs kv = some (g v0)) (hm : m[i]? = some (.mq b (krow (VA row) g lm)))
    (next : L P ops Q n (Cls w0 own (m.set i (.mq b (krow (VA row) g (kset lm a v0))))) rest fs) : L P ops Q n (Cls w0 own m) (⟨none, .mapUpdate tx x y kv, t, pos, af, none⟩ :: rest) fs :=
  L.runsNone (fun s w hs hw => by
    obtain ⟨es, clock, hb, hst, he⟩ := hw.get hm
    have hn := kkeys_nodup hst he
    have hbl : b < w.heap.size := (Array.getElem?_eq_some_iff.1 hb).1
    have turned : ∀ (o : Obj), (As.mq b (krow (VA row) g (kset lm a v0))).holds { w with heap := w.heap.setIfInBounds b o } → Cls w0 own (m.set i (.mq b (krow (VA row) g (kset lm a v0)))) { w with heap := w.heap.setIfInBounds b o } := fun o ho =>
      hw.turn hm rfl rfl rfl rfl (by simp) (Nat.le_refl _) (fun k hk => by simp only [As.foot, List.mem_singleton] at hk; exact Array.getElem?_setIfInBounds_ne (Ne.symm hk)) ho
    simp only [execOp, hs.eval hx, hs.eval hy, hs.eval hz]
    rcases kfind_spec (P := P) w hk he a with ⟨h1, h2, h2'⟩ | ⟨j, u, e, h1, h2, hes, hek⟩
    · refine ⟨_, by simp [Instr.mapUpdate, run_underlying hu, MapKept.run_getObj_map hb, hk.chk, h1, MapKept.run_setObj_map _ hb], turned (.map (es.push { key := VA row a, val := g v0, born := clock }) (clock + 1)) ?_⟩
      refine ⟨es.push { key := VA row a, val := g v0, born := clock }, clock + 1, by simp [hbl], MapKept.stamped_push hst h2', ?_⟩
      unfold kset
      rw [if_neg (by rw [khas_none h2]; simp)]
      simp [he, krow]
    · refine ⟨_, by simp [Instr.mapUpdate, run_underlying hu, MapKept.run_getObj_map hb, hk.chk, h1, hes, hek, hk.stays, MapKept.run_setObj_map _ hb], turned (.map (es.modify j fun e => { e with key := VA row a, val := g v0 }) clock) ?_⟩
      refine ⟨es.modify j fun e => { e with key := VA row a, val := g v0 }, clock, by simp [hbl], MapKept.stamped_modify hst _ _ (fun _ _ => rfl) (fun e' _ he' => ?_), ?_⟩
      · rw [hes, Option.some.injEq] at he'; rw [← he', hek]
      · rw [kset_at hn h2, krow, List.map_set, ← krow, ← he]
        apply List.ext_getElem?
        intro q
        simp only [Array.toList_modify, List.getElem?_map, List.getElem?_modify, List.getElem?_set, List.length_map, Array.length_toList]
        by_cases hq : j = q
        · subst hq
          have hlt := (Array.getElem?_eq_some_iff.1 hes).1
          simp [hes, hlt]
        · simp [hq]) next
end gen
theorem Cls.rangeq {w : World} (h : Cls w0 own m w) (hm : m[i]? = some (.mq b l)) {es : Array MapEntry} {clock : Nat} (hb : w.heap[b]? = some (.map es clock)) : Cls w0 own (.mqi b w.heap.size l l none :: m.eraseIdx i) (w.alloc (.mapIter (some b) clock #[] clock)) := by
  have hbl : b < w.heap.size := (Array.getElem?_eq_some_iff.1 hb).1
  have hk : ∀ k, k < w.heap.size → (w.alloc (.mapIter (some b) clock #[] clock)).heap[k]? = w.heap[k]? := fun k hk => RowKit.Below.heap_alloc w _ k hk
  have hp := asfoot_erase hm
  refine ⟨h.os, h.tape, h.output, h.dr, Nat.le_trans h.size (by simp), fun k hk' ho => ?_, ?_, fun y hy => ?_⟩
  · rw [hk k (Nat.lt_of_lt_of_le hk' h.size), h.old k hk' ho]
  · have h1 : (w.heap.size :: m.flatMap As.foot).Nodup := List.nodup_cons.2 ⟨fun hb => Nat.lt_irrefl _ (h.foot_lt _ hb), h.nodup⟩
    refine List.Perm.nodup (List.Perm.trans (List.Perm.cons _ hp.symm) ?_) h1
    simp only [As.foot, List.flatMap_cons, List.cons_append, List.nil_append]
    exact List.Perm.swap ..
  · rcases List.mem_cons.1 hy with rfl | hy
    · obtain ⟨es', clock', hb', hst, he⟩ := h.get hm
      rw [hb] at hb'
      obtain ⟨rfl, rfl⟩ : es = es' ∧ clock = clock' := by simpa using hb'
      refine ⟨⟨es, clock, clock, clock, #[], by rw [hk b hbl]; exact hb, hst, he, ?_, hst.1, Nat.le_refl _, Nat.le_refl _, ?_⟩, fun c hc => ?_⟩
      · show (w.heap.push _)[w.heap.size]? = _
        simp
      · exact ⟨by rw [List.filter_eq_self.2 (fun e _ => by simp)]; exact he, fun _ h => by cases h⟩
      · simp only [As.foot, List.mem_cons, List.not_mem_nil, or_false] at hc
        rcases hc with rfl | rfl
        · exact (h.mine _ (List.mem_of_getElem? hm)).2 _ (by simp [As.foot])
        · exact .inl h.size
    · have hy' := List.mem_of_mem_eraseIdx hy
      exact ⟨As.holds_congr (h.mine y hy').1 fun b hb => hk b (As.holds_lt (h.mine y hy').1 b hb), (h.mine y hy').2⟩
theorem L.range0q (hd : Nat.blt d n = true) (hu : P.underlying tx = some (.map kt et)) (hx : val fs x = some (.map (some b))) (hm : m[i]? = some (.mq b l))
    (next : ∀ r, L P ops Q n (Cls w0 own (.mqi b r l l none :: m.eraseIdx i)) rest ((d, pt r 0) :: fs)) : L P ops Q n (Cls w0 own m) (⟨some d, .range tx x, t, pos, af, none⟩ :: rest) fs :=
  L.fresh (val' := fun r => pt r 0) hd (fun a w hs hw => by
    obtain ⟨es, clock, hb, hst, he⟩ := hw.get hm
    refine ⟨w.heap.size, _, ?_, hw.rangeq hm hb⟩
    simp only [execOp, hs.eval hx]
    simp [run_range_map w tx kt et b es clock hu hb, pt]) next
theorem Cls.miMpq {w : World} (h : Cls w0 own m w) {r : Nat} {cur : Option (Value × Value)} (hi : m[i]? = some (.mqi b r l left cur)) : Cls w0 own (m.set i (.mq b l)) w := by
  have hp := asfoot_set (y := .mq b l) hi
  simp only [As.foot, List.cons_append, List.nil_append] at hp
  have hp' := (List.perm_cons b).1 hp
  refine h.re (fun c hc => hp'.mem_iff.1 (List.mem_cons_of_mem _ hc)) (List.nodup_cons.1 (hp'.nodup_iff.2 h.nodup)).2 fun y hy => ?_
  rcases List.mem_or_eq_of_mem_set hy with hy | rfl
  · exact (h.mine y hy).1
  · obtain ⟨es, clock, _, _, _, h1, h2, h3, _⟩ := h.get hi
    exact ⟨es, clock, h1, h2, h3⟩
theorem Cls.miNoneq {w : World} (h : Cls w0 own m w) {r : Nat} {cur : Option (Value × Value)} (hi : m[i]? = some (.mqi b r l left cur)) : Cls w0 own (m.set i (.mqi b r l left none)) w := by
  obtain ⟨es, clock, since, last, seen, h1, h2, h3, h4, h5, h6, h7, h8, _⟩ := h.get hi
  exact h.turn hi rfl rfl rfl rfl rfl (Nat.le_refl _) (fun _ _ => rfl) ⟨es, clock, since, last, seen, h1, h2, h3, h4, h5, h6, h7, h8, fun _ h => by cases h⟩
theorem run_next_mq {w : World} {r : Nat} {cur : Option (Value × Value)} (ty : TypeId) (h : Cls w0 own m w) (hi : m[i]? = some (.mqi b r l left cur)) :
    (left = [] ∧ (Instr.next (.pointer (some ⟨r, 0, none⟩)) false ty).run P w = .ok (.tuple #[.bool false]) w) ∨
    ∃ (j : Nat) (k v : Value) (w' : World), left[j]? = some (k, v) ∧ (Instr.next (.pointer (some ⟨r, 0, none⟩)) false ty).run P w = .ok (.tuple #[.bool true, k, v]) w' ∧ Cls w0 own (m.set i (.mqi b r l (left.eraseIdx j) (some (k, v)))) w' := by
  obtain ⟨es, clock, since, last, seen, hb, hst, he, hr, hold, hsl, hsc, hleft, _⟩ := h.get hi
  have hlf : (leftOf es seen).toList = es.toList.filter fun e => !seen.contains e.born := by unfold leftOf; rw [Array.toList_filter]
  have hbr : b ≠ r := by rintro rfl; rw [hb] at hr; cases hr
  rcases run_next_at (P := P) w ty r b since last seen es clock hr hb hold hsl with ⟨h1, h2⟩ | ⟨e, hel, w1, hw1, h2⟩
  · refine .inl ⟨?_, h2⟩
    have : (es.toList.filter fun e => !seen.contains e.born) = [] := by rw [← hlf]; simpa using h1
    rw [this] at hleft
    simpa using hleft.symm
  · rw [hlf] at hel
    obtain ⟨j, hj⟩ := List.getElem?_of_mem hel
    have hlj : left[j]? = some (e.key, e.val) := by rw [← hleft, List.getElem?_map, hj]; rfl
    cases hp : left[j]? with
    | none => rw [hp] at hlj; cases hlj
    | some p =>
      rw [hp] at hlj
      simp only [Option.some.injEq] at hlj
      obtain ⟨p1, p2⟩ := p
      simp only [Prod.mk.injEq] at hlj
      obtain ⟨e1, e2⟩ := hlj
      have hcl : Cls w0 own m w1 := by
        rcases hw1 with rfl | rfl
        · exact h
        · exact h.drew
      have hb1 : w1.heap[b]? = some (.map es clock) := by rcases hw1 with rfl | rfl <;> exact hb
      have hrl : r < w1.heap.size := by
        have : w1.heap[r]? = some (.mapIter (some b) since seen last) := by rcases hw1 with rfl | rfl <;> exact hr
        exact (Array.getElem?_eq_some_iff.1 this).1
      refine .inr ⟨j, p1, p2, ChangeMaps.setBlock w1 r (.mapIter (some b) since (seen.push e.born) clock), hp, by rw [h2, ← e1, ← e2], hcl.turn hi rfl rfl rfl rfl (by simp [ChangeMaps.setBlock]) (Nat.le_refl _) (fun k hk => ?_) ?_⟩
      · simp only [As.foot, List.mem_cons, List.not_mem_nil, or_false, not_or] at hk
        exact Array.getElem?_setIfInBounds_ne (Ne.symm hk.2)
      · refine ⟨es, clock, since, clock, seen.push e.born, ?_, hst, he, by simp [ChangeMaps.setBlock, hrl], hold, hsc, hsc, ?_, fun q hq => ⟨rfl, e, (List.mem_filter.1 hel).1, by cases hq; rw [e1, e2], by simp⟩⟩
        · show (w1.heap.setIfInBounds r _)[b]? = _
          rw [Array.getElem?_setIfInBounds_ne (Ne.symm hbr)]; exact hb1
        · have hnf : ((es.toList.filter fun e => !seen.contains e.born).map (·.born)).Nodup := (List.filter_sublist.map _).nodup hst.2.1
          have hfe := filter_ne_erase hnf hj
          rw [List.filter_filter] at hfe
          have e3 : (es.toList.filter fun x => !(seen.push e.born).contains x.born) = es.toList.filter (fun x => !(x.born == e.born) && !seen.contains x.born) := by
            apply List.filter_congr
            intro x _
            rw [contains_push]
            cases seen.contains x.born <;> cases (x.born == e.born) <;> rfl
          rw [e3, hfe, ChangeMaps.map_eraseIdx, hleft]
section
variable {κ α ρ : Type} {K : κ → Value} {g : α → Value} {lm left : List (κ × α)} [DecidableEq ρ] {A : Option ρ} {B : κ → α → List (κ × α) → Option ρ} {r : ρ} {rr : Nat}
theorem L.rangeMq (hd : Nat.blt d n = true) (hu : P.underlying tx = some (.map kt et)) (hx : val fs x = some (.map (some b))) (hm : m[i]? = some (.mq b (krow K g lm)))
    (next : ∀ rr, L P ops Q n (Cls w0 own (.mqi b rr (krow K g lm) (krow K g lm) none :: m.eraseIdx i)) rest ((d, pt rr 0) :: fs)) : L P ops Q n (Cls w0 own m) (⟨some d, .range tx x, t, pos, af, none⟩ :: rest) fs := L.range0q hd hu hx hm next
theorem L.nextMq (h : nxtK left A B = some r) (hd : Nat.blt d n = true) (hx : val fs x = some (pt rr 0)) {cur : Option (Value × Value)} (hm : m[i]? = some (.mqi b rr (krow K g lm) (krow K g left) cur))
    (k1 : A = some r → L P ops Q n (Cls w0 own (m.set i (.mq b (krow K g lm)))) rest ((d, .tuple #[.bool false]) :: fs))
    (k2 : ∀ k v q, B k v q = some r → L P ops Q n (Cls w0 own (m.set i (.mqi b rr (krow K g lm) (krow K g q) (some (K k, g v))))) rest ((d, .tuple #[.bool true, K k, g v]) :: fs)) :
    L P ops Q n (Cls w0 own m) (⟨some d, .next x false, t, pos, af, none⟩ :: rest) fs := by
  obtain ⟨hA, hB⟩ := nxt_some h
  intro a w hs hw
  simp only [wpList, Region.wanted, if_true]
  refine .inl ?_
  unfold Oper.wp
  simp only [execOp, hs.eval hx, pt]
  rcases run_next_mq (P := P) t hw hm with ⟨h1, h2⟩ | ⟨j, k, v, w', h1, h2, h3⟩
  · have hl : left = [] := by simpa [krow] using h1
    simp only [Sem.run_bind, h2, Result.andThen, Sem.run_pure, Oper.upon]
    exact k1 (hA hl) _ _ (hs.put hd _) (hw.miMpq hm)
  · simp only [krow, List.getElem?_map] at h1
    cases hp : left[j]? with
    | none => rw [hp] at h1; cases h1
    | some p =>
      rw [hp] at h1
      simp only [Option.map_some, Option.some.injEq, Prod.mk.injEq] at h1
      obtain ⟨rfl, rfl⟩ := h1
      simp only [Sem.run_bind, h2, Result.andThen, Sem.run_pure, Oper.upon]
      refine k2 p.1 p.2 (left.eraseIdx j) (hB j p hp) _ _ (hs.put hd _) ?_
      rw [show krow K g (left.eraseIdx j) = (krow K g left).eraseIdx j from ChangeMaps.map_eraseIdx ..]
      exact h3
/-- What the step handed out. -/
theorem Y.entryMq {k0 : κ} {v0 : α} {left' : List (Value × Value)} (hx : val fs x = some (pt rr 0)) (hm : m[i]? = some (.mqi b rr (krow K g lm) left' (some (K k0, g v0)))) : Y P (.entry x) t n fs (Cls w0 own m) (.tuple #[K k0, g v0]) :=
  Y.of fun d pos af g' s w hs hw => by
    obtain ⟨es, clock, since, last, seen, hb, hst, he, hr, hold, hsl, hsc, hleft, hcur⟩ := hw.get hm
    obtain ⟨hlast, e, hem, hek, hback⟩ := hcur _ rfl
    subst hlast
    have hf : es.find? (·.born == e.born) = some e := by rw [← Array.find?_toList]; exact find_born e es.toList hst.2.1 hem
    simp only [Prod.mk.injEq] at hek
    simp only [execOp, hs.eval hx, pt]
    simp [Instr.entry, getObj, Sem.run, hr, hb, hback, hf, Result.andThen, hek.1, hek.2]
end
end
end Go.S
