/-
  Slices of pointers, each to a block of its own.
  Conditions: none.
-/
import Derived.Test.YtjdbjcmmdnpeaaaDl
namespace Go.S
set_option linter.unusedVariables false
set_option linter.unusedSimpArgs false
section lists
variable {α : Type} {row : α → List Value} {e : TypeId}
/-- The pointers' rows; the blocks behind them. -/
def zp (g : Nat → Nat) : List α → List (List Value)
  | [] => []
  | _ :: l => [pt (g 0) 0] :: zp (fun i => g (i + 1)) l
def zo (row : α → List Value) (e : TypeId) (g : Nat → Nat) : List α → List Ob
  | [] => []
  | x :: l => ⟨g 0, row x, e⟩ :: zo row e (fun i => g (i + 1)) l
theorem zp_length : ∀ (g : Nat → Nat) (l : List α), (zp g l).length = l.length
  | _, [] => rfl
  | g, _ :: l => by simp [zp, zp_length _ l]
theorem zp_get : ∀ (g : Nat → Nat) (l : List α) (i : Nat) (x : α), l[i]? = some x → (zp g l)[i]? = some [pt (g i) 0]
  | _, [], i, x, h => by simp at h
  | g, y :: l, 0, x, h => by simp [zp]
  | g, y :: l, i + 1, x, h => by
    simp only [List.getElem?_cons_succ] at h
    simpa [zp] using zp_get (fun i => g (i + 1)) l i x h
theorem zo_get : ∀ (g : Nat → Nat) (l : List α) (i : Nat) (x : α), l[i]? = some x → (zo row e g l)[i]? = some ⟨g i, row x, e⟩
  | _, [], i, x, h => by simp at h
  | g, y :: l, 0, x, h => by
    simp only [List.getElem?_cons_zero, Option.some.injEq] at h
    subst h
    simp [zo]
  | g, y :: l, i + 1, x, h => by
    simp only [List.getElem?_cons_succ] at h
    simpa [zo] using zo_get (fun i => g (i + 1)) l i x h
theorem zp_set : ∀ (g : Nat → Nat) (l : List α) (i : Nat) (y : α), zp g (l.set i y) = zp g l
  | _, [], _, _ => rfl
  | g, x :: l, 0, y => rfl
  | g, x :: l, i + 1, y => by simp [zp, zp_set _ l i y]
theorem zo_set : ∀ (g : Nat → Nat) (l : List α) (i : Nat) (y : α), zo row e g (l.set i y) = (zo row e g l).set i ⟨g i, row y, e⟩
  | _, [], _, _ => rfl
  | g, x :: l, 0, y => rfl
  | g, x :: l, i + 1, y => by simp [zo, zo_set _ l i y]
theorem zp_all : ∀ (g : Nat → Nat) (l : List α), ∀ r ∈ zp g l, r.length = 1
  | _, [], r, h => by simp [zp] at h
  | g, x :: l, r, h => by
    simp only [zp, List.mem_cons] at h
    rcases h with rfl | h
    · rfl
    · exact zp_all _ l r h
def gput (g : Nat → Nat) (n b : Nat) : Nat → Nat := fun q => if q < n then g q else b
theorem gput_0 (g : Nat → Nat) (b : Nat) : gput g 0 b = fun _ => b := by funext q; simp [gput]
theorem gput_s (g : Nat → Nat) (n b : Nat) : gput g (n + 1) b 0 = g 0 := by simp [gput]
theorem gput_ss (g : Nat → Nat) (n b : Nat) : (fun i => gput g (n + 1) b (i + 1)) = gput (fun i => g (i + 1)) n b := by
  funext i
  simp only [gput]
  by_cases h : i < n
  · rw [if_pos (by omega), if_pos h]
  · rw [if_neg (by omega), if_neg h]
theorem zp_app : ∀ (g : Nat → Nat) (b : Nat) (l : List α) (x : α), zp (gput g l.length b) (l ++ [x]) = zp g l ++ [[pt b 0]]
  | g, b, [], x => by simp [zp, gput_0]
  | g, b, y :: l, x => by
    rw [List.cons_append, List.length_cons, zp, gput_s, gput_ss, zp_app _ b l x]
    rfl
theorem zo_app : ∀ (g : Nat → Nat) (b : Nat) (l : List α) (x : α), zo row e (gput g l.length b) (l ++ [x]) = zo row e g l ++ [⟨b, row x, e⟩]
  | g, b, [], x => by simp [zo, gput_0]
  | g, b, y :: l, x => by
    rw [List.cons_append, List.length_cons, zo, gput_s, gput_ss, zo_app _ b l x]
    rfl
end lists
section
variable {P : Program} {Q : Exit → Act → World → Prop} {n : Nat} {C : World → Prop} {fs : Fr} {t : TypeId} {ops : Array Oper} {rest : List Oper} {d : Nat} {pos : String} {af : Array Edge}
variable {w0 w : World} {own : List Nat} {m : List As} {x y : Operand} {e te tx ty : TypeId} {i j k kk by' p q s c : Nat} {v u V : Value} {o b : Nat}
variable {α ρ : Type} {r : ρ} {row : α → List Value} {g : Nat → Nat} {l : List α} {a : Int} {u0 u1 : α} {f : List α → Option ρ}
theorem obs_set : ∀ (l : List Ob) (i : Nat) (o o' : Ob), l[i]? = some o → o'.b = o.b → (l.set i o').map Ob.b = l.map Ob.b
  | [], i, o, o', h, _ => by simp at h
  | z :: l, 0, o, o', h, hb => by
    simp only [List.getElem?_cons_zero, Option.some.injEq] at h
    subst h
    simp [hb]
  | z :: l, i + 1, o, o', h, hb => by
    simp only [List.getElem?_cons_succ] at h
    simp [obs_set l i o o' h hb]
theorem nodup_two {β : Type} : ∀ (l : List β) (i j : Nat) (x : β), l.Nodup → l[i]? = some x → l[j]? = some x → i = j
  | [], i, j, x, _, h, _ => by simp at h
  | z :: l, 0, 0, x, _, _, _ => rfl
  | z :: l, 0, j + 1, x, hn, h1, h2 => by
    simp only [List.getElem?_cons_zero, Option.some.injEq] at h1
    subst h1
    exact absurd (List.mem_of_getElem? (by simpa using h2)) (List.nodup_cons.1 hn).1
  | z :: l, i + 1, 0, x, hn, h1, h2 => by
    simp only [List.getElem?_cons_zero, Option.some.injEq] at h2
    subst h2
    exact absurd (List.mem_of_getElem? (by simpa using h1)) (List.nodup_cons.1 hn).1
  | z :: l, i + 1, j + 1, x, hn, h1, h2 => by
    simp only [List.getElem?_cons_succ] at h1 h2
    rw [nodup_two l i j x (List.nodup_cons.1 hn).2 h1 h2]
theorem foot_nodup : ∀ {m : List As} {x : As}, (m.flatMap As.foot).Nodup → x ∈ m → x.foot.Nodup
  | [], x, _, h => by cases h
  | y :: m, x, hn, h => by
    rw [List.flatMap_cons, List.nodup_append] at hn
    rcases List.mem_cons.1 h with rfl | h
    · exact hn.1
    · exact foot_nodup hn.2.1 h
/-- One of many blocks is written. -/
theorem Cls.osPut {w w' : World} {L0 : List Ob} {o : Ob} {c' : List Value} (h : Cls w0 own m w) (hm : m[q]? = some (.os L0)) (hi : L0[i]? = some o) (ht : Turned w w' o.b) (hb : w'.heap[o.b]? = some (.cells c'.toArray o.e (0, 0))) :
    Cls w0 own (m.set q (.os (L0.set i ⟨o.b, c', o.e⟩))) w' := by
  have hmem : (As.os L0) ∈ m := List.mem_of_getElem? hm
  have hnd : (L0.map Ob.b).Nodup := foot_nodup h.nodup hmem
  have hh : (As.os L0).holds w := h.get hm
  refine h.turn hm (obs_set L0 i o _ hi rfl) ht.os ht.tape ht.output ht.size (Nat.le_of_eq ht.drawn.symm) (fun k hk => ht.rest k fun hkb => hk ?_) ?_
  · rw [hkb]; exact List.mem_map.2 ⟨o, List.mem_of_getElem? hi, rfl⟩
  · intro z hz
    obtain ⟨j, hj⟩ := List.getElem?_of_mem hz
    rw [List.getElem?_set] at hj
    split at hj
    · split at hj
      · simp only [Option.some.injEq] at hj
        subst hj
        exact hb
      · cases hj
    · rename_i hij
      have hne : z.b ≠ o.b := fun hzb => hij (nodup_two (L0.map Ob.b) i j o.b hnd (by rw [List.getElem?_map, hi]; rfl) (by rw [List.getElem?_map, hj, ← hzb]; rfl))
      rw [ht.rest _ hne]
      exact hh z (List.mem_of_getElem? hj)
/-- The pointer that stands in a slice. -/
theorem Y.loadPp (ha : aggB P te false = true) (hx : val fs x = some (el v (a.toNat * 1))) (hm : m[q]? = some (.sl v e 1 (zp g l))) (hr : idx l a = some u0) : Y P (.load te x) t n fs (Cls w0 own m) (pt (g a.toNat) 0) :=
  Y.loadE1 ha hx (fun w hw => As.at_ (hw.get hm)) (zp_get g l _ _ (idx_some hr).2.2)
theorem Y.indexPp {ik : IntKind} (hu : P.underlying tx = some (.slice ty)) (hs : szB P ty 1 = true) (hx : val fs x = some v) (hy : val fs y = some (.int ik a)) (hm : m[q]? = some (.sl v e 1 (zp g l))) (z : α) (h : idx l a = some z) :
    Y P (.indexAddr tx x y) t n fs (Cls w0 own m) (el v (a.toNat * 1)) := by
  obtain ⟨h0, h1, _⟩ := idx_some h
  exact Y.indexE hu hs hx hy (fun w hw => As.at_ (hw.get hm)) h0 (by rwa [zp_length])
theorem Y.lenPp (hu : P.underlying tx = some (.slice ty)) (hx : val fs x = some v) (hm : m[q]? = some (.sl v e 1 (zp g l))) : Y P (.call ⟨.builtin .len, #[x], #[tx]⟩) t n fs (Cls w0 own m) (.int .i64 l.length) := by
  have := Y.lenA (t := t) (n := n) (C := Cls w0 own m) hu hx (fun w hw => As.at_ (hw.get hm))
  rwa [zp_length] at this
theorem Cls.obCell {L0 : List Ob} {o : Ob} {pv : Value} (h : Cls w0 own m w) (hm : m[q]? = some (.os L0)) (hi : L0[i]? = some o) (hv : o.c[j]? = some pv) : w.cell? ⟨o.b, j, none⟩ = some pv := by
  have hh : (As.os L0).holds w := h.get hm
  have hb := hh o (List.mem_of_getElem? hi)
  simp [World.cell?, hb, hv]
theorem Y.loadPo {pv : Value} (ha : aggB P te false = true) (hx : val fs x = some (pt (g a.toNat) j)) (hm : m[q]? = some (.os (zo row e g l))) (hr : idx l a = some u0) (hp : (row u0)[j]? = some pv) : Y P (.load te x) t n fs (Cls w0 own m) pv :=
  Y.load1 ha hx fun _ hw => hw.obCell hm (zo_get g l _ _ (idx_some hr).2.2) hp
theorem Y.loadPoN {vals : List Value} (ha : aggB P te true = true) (hs : szB P te kk = true) (hx : val fs x = some (pt (g a.toNat) j)) (hm : m[q]? = some (.os (zo row e g l))) (hr : idx l a = some u0) (hk : vals.length = kk)
    (hp : ∀ i pv, vals[i]? = some pv → (row u0)[j + i]? = some pv) : Y P (.load te x) t n fs (Cls w0 own m) (.agg vals.toArray) :=
  Y.loadN ha hs hx hk fun _ hw i u hu => by rw [Addr.add_lit]; exact hw.obCell hm (zo_get g l _ _ (idx_some hr).2.2) (hp i u hu)
/-- A store behind a pointer of the slice. -/
theorem L.storePo {vals : List Value} {e' : TypeId} (h : bind1 (upd l a u1) f = some r) (hs : szB P te kk = true) (hx : val fs x = some (pt (g a.toNat) j)) (hy : val fs y = some u) (hu : u.cells.toList = vals) (hk : vals.length = kk) (h1 : ∀ u ∈ vals, u.oneCell' = true)
    (hm : m[q]? = some (.os (zo row e g l))) (hp : m[p]? = some (.sl v e' 1 (zp g l))) (hr : idx l a = some u0) (hlen : ∀ z, (row z).length = k) (hj : Nat.ble (j + kk) k = true) (hrow : over (row u0) j vals = row u1)
    (next : ∀ z, upd l a u1 = some z → f z = some r → L P ops Q n (Cls w0 own ((m.set q (.os (zo row e g z))).set p (.sl v e' 1 (zp g z)))) rest fs) : L P ops Q n (Cls w0 own m) (⟨none, .store te x y, t, pos, af, none⟩ :: rest) fs := by
  have hi := idx_some hr
  have hj' : j + kk ≤ k := by simpa using hj
  have h0 := zo_get (row := row) (e := e) g l _ _ hi.2.2
  obtain ⟨z, hz, hf⟩ := bind1S h
  have hz' : z = l.set a.toNat u1 := (upd_some hz).2.2
  refine L.runsNone (D := Cls w0 own ((m.set q (.os (zo row e g z))).set p (.sl v e' 1 (zp g z)))) (fun ac w hs' hw => ?_) (next z hz hf)
  have hh : (As.os (zo row e g l)).holds w := hw.get hm
  have hb := hh _ (List.mem_of_getElem? h0)
  obtain ⟨w', h2, h3, h4⟩ := run_storeCells (P := P) (g a.toNat) e j vals 0 (row u0) w hb (by rw [hlen, hk]; omega) h1
  refine ⟨w', ?_, ?_⟩
  · simp only [execOp, hs'.eval hx, hs'.eval hy]
    have hsz : u.cells.size = kk := by rw [← hk, ← hu]; simp
    simp [Instr.storeAt, Instr.sureAddr, pt, storeVar, run_sizeOf hs, hsz, hu, h2]
  · rw [Nat.add_zero, hrow] at h3
    have h5 := hw.osPut hm h0 h4 h3
    have hpq : q ≠ p := by rintro rfl; rw [hm] at hp; cases hp
    rw [hz', zp_set, set_self (by rw [List.getElem?_set_ne hpq]; exact hp), zo_set]
    exact h5
/-- The empty slice of pointers. -/
theorem Cls.os0 (h : Cls w0 own m w) : Cls w0 own (.os [] :: m) w := by
  refine h.rePerm (by simp [As.foot]) fun z hz => ?_
  rcases List.mem_cons.1 hz with rfl | hz
  · intro o ho; cases ho
  · exact (h.mine z hz).1
theorem Cls.nilPp (h : Cls w0 own m w) (e' e : TypeId) (row : α → List Value) (g : Nat → Nat) : Cls w0 own (.sl (.slice none 0 0) e' 1 (zp g ([] : List α)) :: .os (zo row e g []) :: m) w := h.os0.nilSl e' 1
theorem L.nilPp {ll : List Oper} (e' e : TypeId) (row : α → List Value) (g : Nat → Nat) (h : L P ops Q n (Cls w0 own (.sl (.slice none 0 0) e' 1 (zp g ([] : List α)) :: .os (zo row e g []) :: m)) ll fs) : L P ops Q n (Cls w0 own m) ll fs := fun a w hs hw => h a w hs (hw.nilPp e' e row g)
theorem W.nilPp {cc : Code} (e' e : TypeId) (row : α → List Value) (g : Nat → Nat) (h : W P Q n (Cls w0 own (.sl (.slice none 0 0) e' 1 (zp g ([] : List α)) :: .os (zo row e g []) :: m)) cc fs) : W P Q n (Cls w0 own m) cc fs := fun a w hs hw => h a w hs (hw.nilPp e' e row g)
theorem E.nilPp {ex : Exit} (e' e : TypeId) (row : α → List Value) (g : Nat → Nat) (h : E ex Q n (Cls w0 own (.sl (.slice none 0 0) e' 1 (zp g ([] : List α)) :: .os (zo row e g []) :: m)) fs) : E ex Q n (Cls w0 own m) fs := fun a w hs hw => h a w hs (hw.nilPp e' e row g)
/-- A block of one's own joins the others. -/
theorem Cls.osJoin {L0 : List Ob} {cs : List Value} (h : Cls w0 own (.os L0 :: .obj b cs e :: m) w) : Cls w0 own (.os (L0 ++ [⟨b, cs, e⟩]) :: m) w := by
  refine h.rePerm ?_ fun z hz => ?_
  · simp [As.foot]
  · rcases List.mem_cons.1 hz with rfl | hz
    · intro o ho
      rcases List.mem_append.1 ho with ho | ho
      · exact (h.mine (.os L0) (by simp)).1 o ho
      · simp only [List.mem_singleton] at ho
        subst ho
        exact (h.mine (.obj b cs e) (by simp)).1
    · exact (h.mine z (by simp [hz])).1
/-- append of one pointer: what stands behind it joins. -/
theorem L.appPp {u0 : α} {e' : TypeId} (h : bind1 (app l [u0]) f = some r) (hd : Nat.blt d n = true) (hu : P.underlying tx = some (.slice e')) (he : elemB P e' 1 by' = true) (hx : val fs x = some v) (hy : val fs y = some u) (hb : Nat.ble by' 56 = true)
    (next : ∀ v' g' z, app l [u0] = some z → f z = some r → L P ops Q n (Cls w0 own (.sl v' e' 1 (zp g' z) :: .os (zo row e g' z) :: .sl u e' 1 [[pt b 0]] :: m)) rest ((d, v') :: fs)) :
    L P ops Q n (Cls w0 own (.sl v e' 1 (zp g l) :: .os (zo row e g l) :: .obj b (row u0) e :: .sl u e' 1 [[pt b 0]] :: m)) (⟨some d, .call ⟨.builtin .append, #[x, y], #[tx, tx]⟩, t, pos, af, none⟩ :: rest) fs := by
  obtain ⟨z, hz, h⟩ := bind1S h
  obtain ⟨rfl, hl⟩ := app_some hz
  have hb' : by' ≤ 56 := by simpa using hb
  refine L.append (i := 0) hd hu he hx hy rfl (fun w hw => As.at_ (hw.get (i := 3) rfl)) ?_ ?_ ?_ fun v' => ?_
  · intro r hr z hz
    simp only [List.mem_singleton] at hr
    subst hr
    simp only [List.mem_singleton] at hz
    subst hz
    rfl
  · rw [zp_length]; simp only [List.length_singleton] at *; unfold maxLen; omega
  · rw [zp_length]
    simp only [List.length_singleton] at *
    calc (l.length + 1) * by' ≤ (l.length + 1) * 56 := Nat.mul_le_mul_left _ hb'
      _ ≤ _ := by omega
  · refine L.to (fun w hw => ?_) (next v' (gput g l.length b) _ hz h)
    rw [← zp_app g b l u0] at hw
    rw [zo_app]
    have h2 : Cls w0 own (.os (zo row e g l) :: .obj b (row u0) e :: .sl v' e' 1 (zp (gput g l.length b) (l ++ [u0])) :: .sl u e' 1 [[pt b 0]] :: m) w := hw.perm (by simp only [List.eraseIdx_cons_zero]; exact (List.perm_middle (l₁ := ([As.os (zo row e g l), As.obj b (row u0) e] : List As)) ..))
    exact h2.osJoin.perm (List.Perm.swap ..)
/-! Maps whose elements are functions; a call of such an element. -/
def VF (x : Int) : Value := .func (.func x.toNat) #[] #[]
theorem L.callV {f : FuncId} {xo : Operand} {xs : List Operand} {ts : Array TypeId} {vs : List Value} {R : Value → World → Prop} (hd : Nat.blt d n = true) (he : entB P f = true) (hf : val fs xo = some (.func (.func f) #[] #[])) (hx : vals fs xs = some vs)
    (hc : ∀ w, C w → Calls P f vs.toArray w fun e w' => ∃ v, e = .returned v ∧ R v w') (k : ∀ v, L P ops Q n (R v) rest ((d, v) :: fs)) : L P ops Q n C (⟨some d, .call ⟨.value xo, xs.toArray, ts⟩, t, pos, af, none⟩ :: rest) fs := by
  intro a w hs hw
  have h1 := run_callV (t := t) (pos := pos) (af := af) (ts := ts) (cap := []) he hf hx hs w (some d)
  rw [List.append_nil] at h1
  simp only [wpList, Region.wanted, if_true]
  refine .inl ?_
  unfold Oper.wp
  rw [h1]
  refine (hc w hw).mono ?_
  rintro e w' ⟨v, rfl, hv⟩
  exact k v _ w' (hs.put hd v) hv
theorem L.doesV {xi : Int} {xo : Operand} {xs : List Operand} {ts : Array TypeId} {vs : List Value} {R : Value → List As → Prop} (hd : Nat.blt d n = true) (he : entB P xi.toNat = true) (hf : val fs xo = some (VF xi)) (hx : vals fs xs = some vs)
    (hc : ∀ w, Cls w0 own m w → Does P xi.toNat vs w R) (k : ∀ v m', R v m' → L P ops Q n (Cls w0 own (m' ++ m)) rest ((d, v) :: fs)) : L P ops Q n (Cls w0 own m) (⟨some d, .call ⟨.value xo, xs.toArray, ts⟩, t, pos, af, none⟩ :: rest) fs := by
  refine L.callV (R := fun v w' => ∃ m', R v m' ∧ Cls w0 own (m' ++ m) w') hd he hf hx (fun w hw => Calls.mono (hc w hw) ?_) fun v => L.ex fun m' => ?_
  · rintro e w' ⟨v, m', rfl, hv, hcl⟩
    exact ⟨v, rfl, m', hv, hw.call hcl⟩
  · rintro a w hs ⟨hr, hcl⟩
    exact k v m' hr a w hs hcl
theorem L.mapIns {β : Type} {kt et : TypeId} {gg : β → Value} {lm : List (Int × β)} {v0 : β} {kv : Operand} (hu : P.underlying tx = some (.map kt et)) (hk : P.underlying kt = some (.int .i64)) (hx : val fs x = some (.map (some b))) (hy : val fs y = some (.int .i64 a)) (hz : val fs kv = some (gg v0)) (hm : m[i]? = some (.mp b (mrow gg lm)))
    (next : L P ops Q n (Cls w0 own (m.set i (.mp b (mrow gg (mset lm a v0))))) rest fs) : L P ops Q n (Cls w0 own m) (⟨none, .insert tx x y kv, t, pos, af, none⟩ :: rest) fs := fun ac w hs hw => by
  have := L.mapSet (t := t) (pos := pos) (af := af) hu hk hx hy hz hm next ac w hs hw
  exact this
end
end Go.S
