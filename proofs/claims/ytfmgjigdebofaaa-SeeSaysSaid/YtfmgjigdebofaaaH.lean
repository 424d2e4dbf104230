/-
  Maps of ints; slices that can be read alone.
  Conditions: none.
-/
import Derived.Test.YtfmgjigdebofaaaT
import Derived.MapKept
namespace Go.S
set_option linter.unusedSimpArgs false
def mget (l : List (Int × Int)) (k : Int) : Int := match l.find? (fun p => decide (p.1 = k)) with
  | some p => p.2
  | none => 0
def mset (l : List (Int × Int)) (k v : Int) : List (Int × Int) := if (l.any fun p => decide (p.1 = k)) = true then l.map (fun p => if p.1 = k then (k, v) else p) else l ++ [(k, v)]
def MV (p : Int × Int) : Value × Value := (.int .i64 p.1, .int .i64 p.2)
section
variable {P : Program} {Q : Exit → Act → World → Prop} {n : Nat} {fs : Fr} {C : World → Prop} {t : TypeId} {ops : Array Oper} {rest : List Oper} {d : Nat} {pos : String} {af : Array Edge}
variable {w0 : World} {own : List Nat} {m : List As} {x y z : Operand} {kt et tx : TypeId} {i b : Nat} {l : List (Int × Int)} {a v : Int}
theorem Cls.allocO {w : World} (h : Cls w0 own m w) (o : Obj) (x : As) (hf : x.foot = [w.heap.size]) (hx : x.holds (w.alloc o)) : Cls w0 own (x :: m) (w.alloc o) := by
  have hk : ∀ k, k < w.heap.size → (w.alloc o).heap[k]? = w.heap[k]? := fun k hk => RowKit.Below.heap_alloc w _ k hk
  refine ⟨h.os, h.tape, h.output, Nat.le_trans h.size (by simp), fun k hk' ho => ?_, ?_, fun y hy => ?_⟩
  · rw [hk k (Nat.lt_of_lt_of_le hk' h.size), h.old k hk' ho]
  · simp only [List.flatMap_cons, hf, List.singleton_append, List.nodup_cons]
    exact ⟨fun hb => Nat.lt_irrefl _ (h.foot_lt _ hb), h.nodup⟩
  · rcases List.mem_cons.1 hy with rfl | hy
    · refine ⟨hx, fun b hb => ?_⟩
      rw [hf, List.mem_singleton] at hb
      subst hb
      exact .inl h.size
    · exact ⟨As.holds_congr (h.mine y hy).1 fun b hb => hk b (As.holds_lt (h.mine y hy).1 b hb), (h.mine y hy).2⟩
theorem L.makeMap (hd : Nat.blt d n = true) (next : ∀ b, L P ops Q n (Cls w0 own (.mp b [] :: m)) rest ((d, .map (some b)) :: fs)) : L P ops Q n (Cls w0 own m) (⟨some d, .makeMap tx none, t, pos, af, none⟩ :: rest) fs :=
  L.fresh (val' := fun b => .map (some b)) hd (fun a w hs hw => by
    refine ⟨w.heap.size, _, ?_, hw.allocO (.map #[] 0) (.mp w.heap.size []) rfl ⟨by simp, #[], 0, ?_, rfl⟩⟩
    · simp only [execOp, Option.map_none]
      rfl
    · show (w.heap.push _)[w.heap.size]? = _
      simp) next

/-- Where a key stands. -/
theorem find_spec (w : World) (hk : P.underlying kt = some (.int .i64)) {es : Array MapEntry} (he : es.toList.map (fun e => (e.key, e.val)) = l.map MV) (a : Int) :
    ((Instr.findKey kt (.int .i64 a) es.toList).run P w = .ok none w ∧ ∀ p ∈ l, p.1 ≠ a) ∨ ∃ j v, (Instr.findKey kt (.int .i64 a) es.toList).run P w = .ok (some (j, .int .i64 v)) w ∧ l[j]? = some (a, v) ∧ (es[j]?).map (·.key) = some (.int .i64 a) := by
  have hks : ∀ e ∈ es.toList, MapKept.IsKey (.int .i64) e.key := by
    intro e hm
    have : (e.key, e.val) ∈ es.toList.map (fun e => (e.key, e.val)) := List.mem_map.2 ⟨e, hm, rfl⟩
    rw [he] at this
    obtain ⟨p, _, hp⟩ := List.mem_map.1 this
    have : e.key = .int .i64 p.1 := (Prod.mk.inj hp).1.symm
    rw [this]; rfl
  rcases MapKept.findNow_spec (k := .int .i64 a) (show MapKept.IsKey (.int .i64) (.int .i64 a) from rfl) es.toList 0 hks with ⟨h1, h2⟩ | ⟨j, e, h1, h2, h3⟩
  · refine .inl ⟨MapKept.run_findKey hk h1, fun p hp heq => ?_⟩
    have : MV p ∈ es.toList.map (fun e => (e.key, e.val)) := by rw [he]; exact List.mem_map.2 ⟨p, hp, rfl⟩
    obtain ⟨e, hem, hee⟩ := List.mem_map.1 this
    exact h2 e hem (by rw [(Prod.mk.inj hee).1, heq])
  · have hj : (l.map MV)[j]? = some (e.key, e.val) := by rw [← he, List.getElem?_map, h2]; rfl
    rw [List.getElem?_map] at hj
    cases hp : l[j]? with
    | none => rw [hp] at hj; cases hj
    | some p =>
      rw [hp] at hj
      simp only [Option.map_some, Option.some.injEq, MV, Prod.mk.injEq] at hj
      obtain ⟨e1, e2⟩ := hj
      have hpa : p.1 = a := by rw [h3] at e1; simpa using e1
      refine .inr ⟨j, p.2, ?_, by rw [hp, ← hpa], ?_⟩
      · have := MapKept.run_findKey (P := P) (w := w) hk h1
        rwa [Nat.zero_add, ← e2] at this
      · have : es[j]? = some e := by simpa using h2
        rw [this]; simp [h3]
theorem mget_at (hn : (l.map (·.1)).Nodup) {j : Nat} (h : l[j]? = some (a, v)) : mget l a = v := by
  have hm := List.mem_of_getElem? h
  unfold mget
  cases hf : l.find? (fun p => decide (p.1 = a)) with
  | none =>
    have := List.find?_eq_none.1 hf (a, v) hm
    simp at this
  | some p =>
    have hp := List.mem_of_find?_eq_some hf
    have hpa : p.1 = a := by simpa using List.find?_some hf
    -- one key, one value
    have : ∀ (l : List (Int × Int)), (l.map (·.1)).Nodup → ∀ p q : Int × Int, p ∈ l → q ∈ l → p.1 = q.1 → p = q := by
      intro l
      induction l with
      | nil => intro _ p q hp; cases hp
      | cons c l ih =>
        intro hn p q hp hq hpq
        rw [List.map_cons, List.nodup_cons] at hn
        rcases List.mem_cons.1 hp with e1 | hp' <;> rcases List.mem_cons.1 hq with e2 | hq'
        · rw [e1, e2]
        · exact absurd (List.mem_map.2 ⟨q, hq', by rw [← hpq, e1]⟩) hn.1
        · exact absurd (List.mem_map.2 ⟨p, hp', by rw [hpq, e2]⟩) hn.1
        · exact ih hn.2 p q hp' hq' hpq
    rw [this l hn p (a, v) hp hm hpa]
theorem mget_none (h : ∀ p ∈ l, p.1 ≠ a) : mget l a = 0 := by
  unfold mget
  rw [List.find?_eq_none.2 (fun p hp => by simpa using h p hp)]
theorem Y.lookupM (hu : P.underlying tx = some (.map kt et)) (hk : P.underlying kt = some (.int .i64)) (hz : ((P.info? et).bind fun i => i.zero) = some (.int .i64 0)) (hx : val fs x = some (.map (some b))) (hy : val fs y = some (.int .i64 a)) (hm : m[i]? = some (.mp b l)) :
    Y P (.lookup tx x y false) t n fs (Cls w0 own m) (.int .i64 (mget l a)) :=
  Y.of fun d pos af g s w hs hw => by
    obtain ⟨hn, es, clock, hb, he⟩ := hw.get hm
    simp only [execOp, hs.eval hx, hs.eval hy]
    rcases find_spec (P := P) w hk he a with ⟨h1, h2⟩ | ⟨j, v, h1, h2, _⟩
    · have hz1 : (zeroValue et).run P w = .ok (.int .i64 0) w := by
        cases hi : P.info? et with
        | none => rw [hi] at hz; cases hz
        | some inf =>
          rw [hi] at hz
          have hz' : inf.zero = some (.int .i64 0) := hz
          simp [zeroValue, typeInfo, hi, hz']
      simp [Instr.lookup, run_underlying hu, MapKept.run_getObj_map hb, MapKept.run_checkKey hk (show MapKept.IsKey (.int .i64) (.int .i64 a) from rfl), h1, hz1, mget_none h2]
    · simp [Instr.lookup, run_underlying hu, MapKept.run_getObj_map hb, MapKept.run_checkKey hk (show MapKept.IsKey (.int .i64) (.int .i64 a) from rfl), h1, mget_at hn h2]
theorem mset_nodup (hn : (l.map (·.1)).Nodup) (a v : Int) : ((mset l a v).map (·.1)).Nodup := by
  unfold mset
  split
  · have : (l.map (fun p => if p.1 = a then (a, v) else p)).map (·.1) = l.map (·.1) := by
      rw [List.map_map]
      refine List.map_congr_left fun p _ => ?_
      simp only [Function.comp]
      split
      · rename_i h; simpa using (show p.1 = a by simpa using h).symm
      · rfl
    rw [this]; exact hn
  · rename_i h
    rw [List.map_append, List.nodup_append]
    refine ⟨hn, by simp, fun x hx y hy hxy => ?_⟩
    simp only [List.map_cons, List.map_nil, List.mem_singleton] at hy
    subst hy; subst hxy
    obtain ⟨p, hp, hpa⟩ := List.mem_map.1 hx
    exact h (List.any_eq_true.2 ⟨p, hp, by simpa using hpa⟩)
theorem mset_at (hn : (l.map (·.1)).Nodup) {j : Nat} {u : Int} (h : l[j]? = some (a, u)) : mset l a v = l.set j (a, v) := by
  have hm := List.mem_of_getElem? h
  unfold mset
  rw [if_pos (List.any_eq_true.2 ⟨_, hm, by simp⟩)]
  have : ∀ (l : List (Int × Int)) (j : Nat), (l.map (·.1)).Nodup → l[j]? = some (a, u) → l.map (fun p => if p.1 = a then (a, v) else p) = l.set j (a, v) := by
    intro l
    induction l with
    | nil => intro j _ h; simp at h
    | cons c l ih =>
      intro j hn h
      rw [List.map_cons, List.nodup_cons] at hn
      cases j with
      | zero =>
        simp only [List.getElem?_cons_zero, Option.some.injEq] at h
        subst h
        have : l.map (fun p => if p.1 = a then (a, v) else p) = l := by
          rw [List.map_congr_left (g := id) (fun p hp => ?_)]
          · simp
          · have : p.1 ≠ a := fun e => hn.1 (List.mem_map.2 ⟨p, hp, e⟩)
            simp [this]
        simp [this]
      | succ j =>
        simp only [List.getElem?_cons_succ] at h
        have hc : c.1 ≠ a := fun e => hn.1 (List.mem_map.2 ⟨_, List.mem_of_getElem? h, e.symm⟩)
        simp [hc, ih j hn.2 h]
  exact this l j hn h
theorem L.mapSet {kv : Operand} (hu : P.underlying tx = some (.map kt et)) (hk : P.underlying kt = some (.int .i64)) (hx : val fs x = some (.map (some b))) (hy : val fs y = some (.int .i64 a)) (hz : val fs kv = some (.int .i64 v)) (hm : m[i]? = some (.mp b l))
    (next : L P ops Q n (Cls w0 own (m.set i (.mp b (mset l a v)))) rest fs) : L P ops Q n (Cls w0 own m) (⟨none, .mapUpdate tx x y kv, t, pos, af, none⟩ :: rest) fs :=
  L.runsNone (fun s w hs hw => by
    obtain ⟨hn, es, clock, hb, he⟩ := hw.get hm
    have hbl : b < w.heap.size := (Array.getElem?_eq_some_iff.1 hb).1
    have turned : ∀ (o : Obj), (As.mp b (mset l a v)).holds { w with heap := w.heap.setIfInBounds b o } → Cls w0 own (m.set i (.mp b (mset l a v))) { w with heap := w.heap.setIfInBounds b o } := fun o ho =>
      hw.turn hm rfl rfl rfl rfl (by simp) (fun k hk => by simp only [As.foot, List.mem_singleton] at hk; exact Array.getElem?_setIfInBounds_ne (Ne.symm hk)) ho
    simp only [execOp, hs.eval hx, hs.eval hy, hs.eval hz]
    rcases find_spec (P := P) w hk he a with ⟨h1, h2⟩ | ⟨j, u, h1, h2, h3⟩
    · refine ⟨_, by simp [Instr.mapUpdate, run_underlying hu, MapKept.run_getObj_map hb, MapKept.run_checkKey hk (show MapKept.IsKey (.int .i64) (.int .i64 a) from rfl), h1, MapKept.run_setObj_map _ hb], turned (.map (es.push { key := .int .i64 a, val := .int .i64 v, born := clock }) (clock + 1)) ?_⟩
      refine ⟨mset_nodup hn a v, es.push { key := .int .i64 a, val := .int .i64 v, born := clock }, clock + 1, by simp [hbl], ?_⟩
      have hany : ¬ (l.any fun p => decide (p.1 = a)) = true := by
        intro h
        obtain ⟨p, hp, hpa⟩ := List.any_eq_true.1 h
        exact h2 p hp (by simpa using hpa)
      unfold mset
      rw [if_neg hany]
      simp [he, MV]
    · cases hes : es[j]? with
      | none => rw [hes] at h3; cases h3
      | some e =>
        rw [hes] at h3
        have hek : e.key = .int .i64 a := by simpa using h3
        refine ⟨_, by simp [Instr.mapUpdate, run_underlying hu, MapKept.run_getObj_map hb, MapKept.run_checkKey hk (show MapKept.IsKey (.int .i64) (.int .i64 a) from rfl), h1, hes, hek, MapKept.run_keyThatStays (show MapKept.IsKey (.int .i64) (.int .i64 a) from rfl), MapKept.run_setObj_map _ hb], turned (.map (es.modify j fun e => { e with key := .int .i64 a, val := .int .i64 v }) clock) ?_⟩
        refine ⟨mset_nodup hn a v, es.modify j fun e => { e with key := .int .i64 a, val := .int .i64 v }, clock, by simp [hbl], ?_⟩
        rw [mset_at hn h2, List.map_set, ← he]
        apply List.ext_getElem?
        intro q
        simp only [Array.toList_modify, List.getElem?_map, List.getElem?_modify, List.getElem?_set, List.length_map, Array.length_toList]
        by_cases hq : j = q
        · subst hq
          have hlt := (Array.getElem?_eq_some_iff.1 hes).1
          simp [hes, hlt]
        · simp [hq]) next
theorem mget_mset (l : List (Int × Int)) (a v k : Int) : mget (mset l a v) k = if k = a then v else mget l k := by
  unfold mset
  split
  · rename_i h
    obtain ⟨p, hp, hpa⟩ := List.any_eq_true.1 h
    have hpa : p.1 = a := by simpa using hpa
    have key : ∀ l : List (Int × Int), (∃ p ∈ l, p.1 = a) → mget (l.map (fun p => if p.1 = a then (a, v) else p)) k = if k = a then v else mget l k := by
      intro l
      induction l with
      | nil => rintro ⟨p, hp, _⟩; cases hp
      | cons c l ih =>
        rintro ⟨p, hp, hpa⟩
        by_cases hc : c.1 = a
        · by_cases hk : k = a
          · subst hk; simp [mget, hc]
          · have hne : a ≠ k := fun e => hk e.symm
            have rest : mget (l.map (fun p => if p.1 = a then (a, v) else p)) k = mget l k := by
              clear ih hp
              induction l with
              | nil => rfl
              | cons e l ih2 =>
                by_cases he : e.1 = a
                · have : e.1 ≠ k := fun h => hk (h ▸ he)
                  simpa [mget, he, hne, this] using ih2
                · by_cases hek : e.1 = k
                  · simp [mget, hek]
                    simp [show ¬ k = a from hk, hek]
                  · simpa [mget, he, hek] using ih2
            have hck : c.1 ≠ k := fun h => hne (hc ▸ h)
            have e1 : mget ((c :: l).map (fun p => if p.1 = a then (a, v) else p)) k = mget (l.map (fun p => if p.1 = a then (a, v) else p)) k := by simp [mget, hc, hne]
            have e2 : mget (c :: l) k = mget l k := by simp [mget, hck]
            rw [e1, e2, rest, if_neg hk]
        · have hpl : p ∈ l := by
            rcases List.mem_cons.1 hp with rfl | h
            · exact absurd hpa hc
            · exact h
          have := ih ⟨p, hpl, hpa⟩
          by_cases hck : c.1 = k
          · have hka : k ≠ a := fun h => hc (hck.trans h)
            simp [mget, hck, hka]
          · have e1 : mget ((c :: l).map (fun p => if p.1 = a then (a, v) else p)) k = mget (l.map (fun p => if p.1 = a then (a, v) else p)) k := by simp [mget, hc, hck]
            have e2 : mget (c :: l) k = mget l k := by simp [mget, hck]
            rw [e1, e2, this]
    exact key l ⟨p, hp, hpa⟩
  · rename_i h
    have hno : ∀ p ∈ l, p.1 ≠ a := fun p hp e => h (List.any_eq_true.2 ⟨p, hp, by simpa using e⟩)
    unfold mget
    rw [List.find?_append]
    cases hf : l.find? (fun p => decide (p.1 = k)) with
    | none =>
      by_cases hk : k = a
      · subst hk; simp
      · simp [hk, show ¬ a = k from fun e => hk e.symm]
    | some p =>
      have hp := List.mem_of_find?_eq_some hf
      have hpk : p.1 = k := by simpa using List.find?_some hf
      have : k ≠ a := fun e => hno p hp (hpk.trans e)
      simp [this]

/-! ### A slice that can be read alone -/
theorem As.at2 {w : World} {v : Value} {k : Nat} {rows : List (List Value)} (h : (As.rd v k rows).holds w) : At w v k rows := h.1
theorem Cls.toRd {w : World} {v : Value} {e : TypeId} {k : Nat} {rows : List (List Value)} (h : Cls w0 own m w) (hi : m[i]? = some (.sl v e k rows)) : Cls w0 own (m.set i (.rd v k rows)) w := by
  have hs := h.get hi
  refine h.turn hi rfl rfl rfl rfl rfl (fun _ _ => rfl) ⟨As.at_ hs, ?_⟩
  obtain ⟨_, _, h3⟩ := hs
  rcases h3 with ⟨h3, _⟩ | ⟨g, cap, cur, rfl, _, hh, _⟩
  · exact .inl h3
  · exact .inr ⟨g, _, cap, rfl, (Array.getElem?_eq_some_iff.1 hh).1⟩
/-- s[:h:h] -/
theorem L.cut3 {α : Type} {g : α → List Value} {s z : List α} {v : Value} {e : TypeId} {k : Nat} {ik ik2 : IntKind} {hi : Int} {y2 : Operand} (h : Go.S.cut s 0 hi = some z) (hd : Nat.blt d n = true) (hu : P.underlying tx = some (.slice e)) (hs : szB P e k = true) (hx : val fs x = some v) (hy : val fs y = some (.int ik hi)) (hy2 : val fs y2 = some (.int ik2 hi))
    (hm : m[i]? = some (.sl v e k (s.map g))) (next : ∀ v', L P ops Q n (Cls w0 own (m.set i (.rd v' k (z.map g)))) rest ((d, v') :: fs)) : L P ops Q n (Cls w0 own m) (⟨some d, .slice tx x none (some y) (some y2), t, pos, af, none⟩ :: rest) fs := by
  obtain ⟨_, h1, h2, rfl⟩ := cut_some h
  refine L.runs (R := fun v' w' => Cls w0 own (m.set i (.rd v' k (((s.take hi.toNat).drop (0 : Int).toNat).map g))) w') hd (fun a w hsl hw => ?_) next
  have hown := hw.get hm
  have hat := As.at_ hown
  have htake := hat.take hi.toNat (by rw [List.length_map]; omega)
  obtain ⟨hr, hl, h3⟩ := hown
  have hzl : ((s.take hi.toNat).drop (0 : Int).toNat).map g = (s.map g).take hi.toNat := by simp [List.map_take]
  rw [hzl]
  rcases h3 with ⟨rfl, hn⟩ | ⟨gg, cap, cur, rfl, hg, hh, hnc, hcm, hcs, htk⟩
  · have hs0 : s = [] := by simpa using hn
    subst hs0
    have hz : hi = 0 := by simp at h2; omega
    subst hz
    refine ⟨.slice none 0 0, w, ?_, hw.turn hm rfl rfl rfl rfl rfl (fun _ _ => rfl) ⟨At.nil w k, .inl rfl⟩⟩
    have h := run_slice_hm (P := P) w tx none 0 0 (elemOf_slice hu) ik ik2 0 0 (by omega) (by omega) (by omega)
    rw [elem_slice hu, run_sizeOf hs] at h
    simp only [execOp, hsl.eval hx, hsl.eval hy, hsl.eval hy2, Option.map_some, Option.map_none]
    simp [run_sliceAt_slice w tx _ _ _ _ (elemOf_slice hu), h, sliced]
  · rw [List.length_map] at hnc
    have hrun := run_slice_hm (P := P) w tx (some ⟨gg, 0, none⟩) (s.map g).length cap (elemOf_slice hu) ik ik2 hi hi h1 (by omega) (by omega)
    rw [elem_slice hu, run_sizeOf hs, List.length_map] at hrun
    have hlen : ((s.map g).take hi.toNat).length = hi.toNat := by rw [List.length_take, List.length_map]; omega
    refine ⟨.slice (some ⟨gg, 0, none⟩) hi.toNat hi.toNat, w, ?_, hw.turn hm rfl rfl rfl rfl rfl (fun _ _ => rfl) ⟨⟨.inr ⟨_, hi.toNat, by rw [hlen], by rw [hlen]; exact Nat.le_refl _, by omega⟩, htake.len, htake.cell⟩, .inr ⟨gg, _, _, rfl, (Array.getElem?_eq_some_iff.1 hh).1⟩⟩⟩
    simp only [execOp, hsl.eval hx, hsl.eval hy, hsl.eval hy2, Option.map_some, Option.map_none]
    simp [run_sliceAt_slice w tx _ _ _ _ (elemOf_slice hu), hrun, sliced, Addr.add]
theorem over_all : ∀ (vs c p : List Value), vs.length = c.length → over (p ++ c) p.length vs = p ++ vs
  | [], c, p, h => by
    have : c = [] := List.length_eq_zero_iff.1 (by simpa using h.symm)
    subst this; rfl
  | v :: vs, [], p, h => by simp at h
  | v :: vs, u :: c, p, h => by
    have e : (p ++ u :: c).set p.length v = (p ++ [v]) ++ c := by rw [List.set_append_right _ _ (Nat.le_refl _)]; simp
    have := over_all vs c (p ++ [v]) (by simpa using h)
    rw [over, e, show p.length + 1 = (p ++ [v]).length by simp, this]
    simp
theorem L.storeArW {α : Type} {row : α → List Value} {l l' : List α} {e te : TypeId} {k kk c : Nat} (hn : l.length = c) (hn' : l'.length = c) (hk : c * k = kk) (hlen : ∀ z, (row z).length = k) (hp : Plain (l'.map row)) (hs : szB P te kk = true) (hx : val fs x = some (pt b 0)) (hy : val fs y = some (.agg (l'.map row).flatten.toArray))
    (hm : m[i]? = some (.obj b (l.map row).flatten e)) (next : L P ops Q n (Cls w0 own (m.set i (.obj b (l'.map row).flatten e))) rest fs) : L P ops Q n (Cls w0 own m) (⟨none, .store te x y, t, pos, af, none⟩ :: rest) fs := by
  have h1 := len_flat hlen l
  have h2 := len_flat hlen l'
  refine L.store (vs := (l'.map row).flatten) hs hx hy (by simp [Value.cells]) (by rw [h2, hn', hk]) (fun u hu => ?_) hm (by rw [h1, hn, hk]; omega) ?_
  · obtain ⟨r, hr, hur⟩ := List.mem_flatten.1 hu
    exact hp r hr u hur
  · have := over_all (l'.map row).flatten (l.map row).flatten [] (by rw [h1, h2, hn, hn'])
    simp only [List.nil_append, List.length_nil] at this
    rw [this]
    exact next
end
end Go.S
