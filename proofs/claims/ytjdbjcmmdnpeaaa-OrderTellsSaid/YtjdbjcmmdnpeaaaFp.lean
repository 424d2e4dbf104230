/-
  Calls that are handed a pointer: what it leads to is lent, and given back.
  Conditions: none.
-/
import Derived.Test.YtjdbjcmmdnpeaaaFz
namespace Go.S
set_option linter.unusedVariables false
set_option linter.unusedSimpArgs false
def bind4 {α0 α1 α2 α3 ρ : Type} (o : Option (α0 × α1 × α2 × α3)) (f : α0 → α1 → α2 → α3 → Option ρ) : Option ρ := match o with
  | some (x0, x1, x2, x3) => f x0 x1 x2 x3
  | none => none
@[simp] theorem bind4_some {α0 α1 α2 α3 ρ : Type} (x0 : α0) (x1 : α1) (x2 : α2) (x3 : α3) (f : α0 → α1 → α2 → α3 → Option ρ) : bind4 (some (x0, x1, x2, x3)) f = f x0 x1 x2 x3 := rfl
theorem bind4S {α0 α1 α2 α3 ρ : Type} {o : Option (α0 × α1 × α2 × α3)} {f : α0 → α1 → α2 → α3 → Option ρ} {r : ρ} (h : bind4 o f = some r) : ∃ x0 x1 x2 x3, o = some (x0, x1, x2, x3) ∧ f x0 x1 x2 x3 = some r := by
  cases o with
  | none => cases h
  | some z => obtain ⟨x0, x1, x2, x3⟩ := z; exact ⟨x0, x1, x2, x3, rfl, h⟩
def bind5 {α0 α1 α2 α3 α4 ρ : Type} (o : Option (α0 × α1 × α2 × α3 × α4)) (f : α0 → α1 → α2 → α3 → α4 → Option ρ) : Option ρ := match o with
  | some (x0, x1, x2, x3, x4) => f x0 x1 x2 x3 x4
  | none => none
@[simp] theorem bind5_some {α0 α1 α2 α3 α4 ρ : Type} (x0 : α0) (x1 : α1) (x2 : α2) (x3 : α3) (x4 : α4) (f : α0 → α1 → α2 → α3 → α4 → Option ρ) : bind5 (some (x0, x1, x2, x3, x4)) f = f x0 x1 x2 x3 x4 := rfl
theorem bind5S {α0 α1 α2 α3 α4 ρ : Type} {o : Option (α0 × α1 × α2 × α3 × α4)} {f : α0 → α1 → α2 → α3 → α4 → Option ρ} {r : ρ} (h : bind5 o f = some r) : ∃ x0 x1 x2 x3 x4, o = some (x0, x1, x2, x3, x4) ∧ f x0 x1 x2 x3 x4 = some r := by
  cases o with
  | none => cases h
  | some z => obtain ⟨x0, x1, x2, x3, x4⟩ := z; exact ⟨x0, x1, x2, x3, x4, rfl, h⟩
def bind6 {α0 α1 α2 α3 α4 α5 ρ : Type} (o : Option (α0 × α1 × α2 × α3 × α4 × α5)) (f : α0 → α1 → α2 → α3 → α4 → α5 → Option ρ) : Option ρ := match o with
  | some (x0, x1, x2, x3, x4, x5) => f x0 x1 x2 x3 x4 x5
  | none => none
@[simp] theorem bind6_some {α0 α1 α2 α3 α4 α5 ρ : Type} (x0 : α0) (x1 : α1) (x2 : α2) (x3 : α3) (x4 : α4) (x5 : α5) (f : α0 → α1 → α2 → α3 → α4 → α5 → Option ρ) : bind6 (some (x0, x1, x2, x3, x4, x5)) f = f x0 x1 x2 x3 x4 x5 := rfl
theorem bind6S {α0 α1 α2 α3 α4 α5 ρ : Type} {o : Option (α0 × α1 × α2 × α3 × α4 × α5)} {f : α0 → α1 → α2 → α3 → α4 → α5 → Option ρ} {r : ρ} (h : bind6 o f = some r) : ∃ x0 x1 x2 x3 x4 x5, o = some (x0, x1, x2, x3, x4, x5) ∧ f x0 x1 x2 x3 x4 x5 = some r := by
  cases o with
  | none => cases h
  | some z => obtain ⟨x0, x1, x2, x3, x4, x5⟩ := z; exact ⟨x0, x1, x2, x3, x4, x5, rfl, h⟩
def bind7 {α0 α1 α2 α3 α4 α5 α6 ρ : Type} (o : Option (α0 × α1 × α2 × α3 × α4 × α5 × α6)) (f : α0 → α1 → α2 → α3 → α4 → α5 → α6 → Option ρ) : Option ρ := match o with
  | some (x0, x1, x2, x3, x4, x5, x6) => f x0 x1 x2 x3 x4 x5 x6
  | none => none
@[simp] theorem bind7_some {α0 α1 α2 α3 α4 α5 α6 ρ : Type} (x0 : α0) (x1 : α1) (x2 : α2) (x3 : α3) (x4 : α4) (x5 : α5) (x6 : α6) (f : α0 → α1 → α2 → α3 → α4 → α5 → α6 → Option ρ) : bind7 (some (x0, x1, x2, x3, x4, x5, x6)) f = f x0 x1 x2 x3 x4 x5 x6 := rfl
theorem bind7S {α0 α1 α2 α3 α4 α5 α6 ρ : Type} {o : Option (α0 × α1 × α2 × α3 × α4 × α5 × α6)} {f : α0 → α1 → α2 → α3 → α4 → α5 → α6 → Option ρ} {r : ρ} (h : bind7 o f = some r) : ∃ x0 x1 x2 x3 x4 x5 x6, o = some (x0, x1, x2, x3, x4, x5, x6) ∧ f x0 x1 x2 x3 x4 x5 x6 = some r := by
  cases o with
  | none => cases h
  | some z => obtain ⟨x0, x1, x2, x3, x4, x5, x6⟩ := z; exact ⟨x0, x1, x2, x3, x4, x5, x6, rfl, h⟩
def bind8 {α0 α1 α2 α3 α4 α5 α6 α7 ρ : Type} (o : Option (α0 × α1 × α2 × α3 × α4 × α5 × α6 × α7)) (f : α0 → α1 → α2 → α3 → α4 → α5 → α6 → α7 → Option ρ) : Option ρ := match o with
  | some (x0, x1, x2, x3, x4, x5, x6, x7) => f x0 x1 x2 x3 x4 x5 x6 x7
  | none => none
@[simp] theorem bind8_some {α0 α1 α2 α3 α4 α5 α6 α7 ρ : Type} (x0 : α0) (x1 : α1) (x2 : α2) (x3 : α3) (x4 : α4) (x5 : α5) (x6 : α6) (x7 : α7) (f : α0 → α1 → α2 → α3 → α4 → α5 → α6 → α7 → Option ρ) : bind8 (some (x0, x1, x2, x3, x4, x5, x6, x7)) f = f x0 x1 x2 x3 x4 x5 x6 x7 := rfl
theorem bind8S {α0 α1 α2 α3 α4 α5 α6 α7 ρ : Type} {o : Option (α0 × α1 × α2 × α3 × α4 × α5 × α6 × α7)} {f : α0 → α1 → α2 → α3 → α4 → α5 → α6 → α7 → Option ρ} {r : ρ} (h : bind8 o f = some r) : ∃ x0 x1 x2 x3 x4 x5 x6 x7, o = some (x0, x1, x2, x3, x4, x5, x6, x7) ∧ f x0 x1 x2 x3 x4 x5 x6 x7 = some r := by
  cases o with
  | none => cases h
  | some z => obtain ⟨x0, x1, x2, x3, x4, x5, x6, x7⟩ := z; exact ⟨x0, x1, x2, x3, x4, x5, x6, x7, rfl, h⟩
/-- What one knows is of blocks that are there, but for these. -/
def StbF (K : World → Prop) (w : World) (F : List Nat) : Prop := ∀ w', w'.os = w.os → w'.tape = w.tape → w'.output = w.output → w.heap.size ≤ w'.heap.size → (∀ k, k < w.heap.size → k ∉ F → w'.heap[k]? = w.heap[k]?) → K w'
section
variable {K : World → Prop} {c c' : List Ob} {v u : Value} {k : Nat} {rows : List (List Value)} {w0 w w' : World} {own : List Nat} {m m' A A' M : List As} {e : TypeId} {i j s : Nat}
theorem Stb.f (h : Stb K w) : StbF K w [] := fun w' h1 h2 h3 h4 h5 => h w' ⟨h1, h2, h3, h4, fun q hq => h5 q hq (by simp)⟩
theorem Fz.clsP (h : Fz K c v k rows) (hK : StbF K w0 own) (hw : Cls w0 own m w) (hl : m.getLast? = some (.os c)) : At w v k rows :=
  h w (hK w hw.os hw.tape hw.output hw.size hw.old) (hw.mine _ (List.mem_of_getLast? hl)).1
theorem FzA.clsP {L : List Sd} (h : FzA K c L) (hK : StbF K w0 own) (hw : Cls w0 own m w) (hl : m.getLast? = some (.os c)) : ∀ d ∈ L, At w d.v d.k d.rows := fun d hd => (h d hd).clsP hK hw hl
theorem FzA.onesP {L0 : List Sd} (h : FzA K c L0) (hK : StbF K w0 own) (hw : Cls w0 own m w) (hl : m.getLast? = some (.os c)) : ∀ d ∈ L0, d.v.oneCell' = true := fun d hd => ((h d hd).clsP hK hw hl).one
theorem Cls.lent_no (hw : Cls w0 own (A ++ M) w) {q : Nat} (hq : q < w0.heap.size) (ho : q ∉ own) : q ∉ A.flatMap As.foot := by
  intro h
  obtain ⟨x, hx, hb⟩ := List.mem_flatMap.1 h
  rcases (hw.mine x (List.mem_append_left _ hx)).2 q hb with h1 | h1
  · omega
  · exact ho h1
theorem StbF.lend (hK : StbF K w0 own) (hw : Cls w0 own (A ++ M) w) : StbF K w (A.flatMap As.foot) := fun w' h1 h2 h3 h4 h5 =>
  hK w' (h1.trans hw.os) (h2.trans hw.tape) (h3.trans hw.output) (Nat.le_trans hw.size h4) fun q hq ho => by
    rw [h5 q (Nat.lt_of_lt_of_le hq hw.size) (hw.lent_no hq ho), hw.old q hq ho]
theorem StbF.kn (hK : StbF K w0 own) (hw : Cls w0 own m w) (hl : m.getLast? = some (.os c)) : Stb (Kn K c) w := by
  have hm : As.os c ∈ m := List.mem_of_getLast? hl
  intro w' hb
  refine ⟨hK w' (hb.os.trans hw.os) (hb.tape.trans hw.tape) (hb.output.trans hw.output) (Nat.le_trans hw.size hb.size) fun q hq ho => ?_, fun o ho => ?_⟩
  · rw [hb.block q (Nat.lt_of_lt_of_le hq hw.size), hw.old q hq ho]
  · have h2 := (hw.mine _ hm).1 o ho
    rw [hb.block o.b (Array.getElem?_eq_some_iff.1 h2).1, h2]
theorem Cls.lend (hw : Cls w0 own (A ++ M) w) : Cls w (A.flatMap As.foot) A w := by
  have hn := hw.nodup
  rw [List.flatMap_append, List.nodup_append] at hn
  exact ⟨rfl, rfl, rfl, DR.refl _, Nat.le_refl _, fun _ _ _ => rfl, hn.1, fun x hx => ⟨(hw.mine x (List.mem_append_left _ hx)).1, fun b hb => .inr (List.mem_flatMap.2 ⟨x, hx, hb⟩)⟩⟩
theorem Cls.back (hw : Cls w0 own (A ++ M) w) (h : Cls w (A.flatMap As.foot) A' w') : Cls w0 own (A' ++ M) w' := by
  have hn := hw.nodup
  rw [List.flatMap_append, List.nodup_append] at hn
  have hM : ∀ b ∈ M.flatMap As.foot, b < w.heap.size ∧ b ∉ A.flatMap As.foot := fun b hb =>
    ⟨hw.foot_lt b (by rw [List.flatMap_append]; exact List.mem_append_right _ hb), fun ha => hn.2.2 b ha b hb rfl⟩
  refine ⟨h.os.trans hw.os, h.tape.trans hw.tape, h.output.trans hw.output, DR.trans hw.dr h.dr, Nat.le_trans hw.size h.size, fun q hq ho => ?_, ?_, fun x hx => ?_⟩
  · rw [h.old q (Nat.lt_of_lt_of_le hq hw.size) (hw.lent_no hq ho), hw.old q hq ho]
  · rw [List.flatMap_append, List.nodup_append]
    refine ⟨h.nodup, hn.2.1, fun a ha b hb hab => ?_⟩
    subst hab
    obtain ⟨h1, h2⟩ := hM a hb
    obtain ⟨x, hx, hax⟩ := List.mem_flatMap.1 ha
    rcases (h.mine x hx).2 a hax with h3 | h3
    · omega
    · exact h2 h3
  · rcases List.mem_append.1 hx with hx | hx
    · refine ⟨(h.mine x hx).1, fun b hb => ?_⟩
      rcases (h.mine x hx).2 b hb with h3 | h3
      · exact .inl (Nat.le_trans hw.size h3)
      · obtain ⟨y, hy, hby⟩ := List.mem_flatMap.1 h3
        exact (hw.mine y (List.mem_append_left _ hy)).2 b hby
    · have hxm := hw.mine x (List.mem_append_right _ hx)
      refine ⟨As.holds_congr hxm.1 fun b hb => ?_, hxm.2⟩
      obtain ⟨h1, h2⟩ := hM b (List.mem_flatMap.2 ⟨x, hx, hb⟩)
      exact h.old b h1 h2
end
/-- What a call does that is lent some blocks. -/
def DoesF (P : Program) (f : FuncId) (vs : List Value) (F : List Nat) (w : World) (R : Value → List As → Prop) : Prop := Calls P f vs.toArray w fun e w' => ∃ v m, e = .returned v ∧ R v m ∧ Cls w F m w'
section
variable {K : World → Prop} {c c' : List Ob} {P : Program} {Q : Exit → Act → World → Prop} {n : Nat} {fs : Fr} {t : TypeId} {ops : Array Oper} {rest : List Oper} {d : Nat} {pos : String} {af : Array Edge}
variable {w0 w : World} {own : List Nat} {m A M : List As} {x y z : Operand} {e te tx ty : TypeId} {i j k kk by' p q s b : Nat} {v u : Value} {rows : List (List Value)}
theorem L.doesP {f : FuncId} {xs : List Operand} {ts : Array TypeId} {vs : List Value} {R : Value → List As → Prop} (hd : Nat.blt d n = true) (he : entB P f = true) (hx : vals fs xs = some vs)
    (hc : ∀ w, Cls w0 own (A ++ M) w → DoesF P f vs (A.flatMap As.foot) w R) (next : ∀ v m', R v m' → L P ops Q n (Cls w0 own (m' ++ M)) rest ((d, v) :: fs)) : L P ops Q n (Cls w0 own (A ++ M)) (⟨some d, .call ⟨.value (.func f), xs.toArray, ts⟩, t, pos, af, none⟩ :: rest) fs := by
  refine L.call (R := fun v w' => ∃ m', R v m' ∧ Cls w0 own (m' ++ M) w') hd he hx (fun w hw => Calls.mono (hc w hw) ?_) fun v => L.ex fun m' => ?_
  · rintro e w' ⟨v, m', rfl, hv, hcl⟩
    exact ⟨v, rfl, m', hv, hw.back hcl⟩
  · rintro a w hs ⟨hr, hcl⟩
    exact next v m' hr a w hs hcl
/-- A call whose answers are frozen, from one that is lent something. -/
theorem L.doesFP {f : FuncId} {xs : List Operand} {ts : Array TypeId} {vs : List Value} {R : List Ob → Value → Prop} (hd : Nat.blt d n = true) (he : entB P f = true) (hx : vals fs xs = some vs) (hl : m.getLast? = some (.os c)) (hK : StbF K w0 own)
    (hc : ∀ w1, Cls w0 own m w1 → Stb (Kn K c) w1 → Does P f vs w1 fun u m' => ∃ c2, m' = [.os c2] ∧ R c2 u)
    (next : ∀ u c2 c', Mo c c' → (∀ {v k rows}, Fz (Kn K c) c2 v k rows → Fz K c' v k rows) → (∀ {L0}, FzA (Kn K c) c2 L0 → FzA K c' L0) → R c2 u → L P ops Q n (Cls w0 own (m.dropLast ++ [.os c'])) rest ((d, u) :: fs)) :
    L P ops Q n (Cls w0 own m) (⟨some d, .call ⟨.value (.func f), xs.toArray, ts⟩, t, pos, af, none⟩ :: rest) fs := by
  refine L.does hd he hx (fun w hw => hc w hw (hK.kn hw hl)) ?_
  rintro u m' ⟨c2, rfl, hr⟩
  have key : ∀ {v k rows}, Fz (Kn K c) c2 v k rows → Fz K (c2 ++ c) v k rows := fun h w hk hh => h w ⟨hk, fun o ho => hh o (List.mem_append_right _ ho)⟩ fun o ho => hh o (List.mem_append_left _ ho)
  refine L.to (fun w hw => ?_) (next u c2 (c2 ++ c) Mo.app1 key (fun h d hd => key (h d hd)) hr)
  have hne : m ≠ [] := by rintro rfl; cases hl
  have h5 := List.dropLast_concat_getLast hne
  rw [List.getLast?_eq_some_getLast hne] at hl
  rw [Option.some.inj hl] at h5
  rw [← h5] at hw
  refine hw.rePerm ?_ fun z hz => ?_
  · simp only [List.flatMap_append, List.flatMap_cons, List.flatMap_nil, List.append_nil, List.singleton_append, As.foot, List.map_append]
    rw [← List.append_assoc, ← List.append_assoc]
    exact List.Perm.append_right _ List.perm_append_comm
  · rcases List.mem_append.1 hz with h1 | h1
    · exact (hw.mine z (by simp [h1])).1
    · simp only [List.mem_singleton] at h1
      subst h1
      intro o ho
      rcases List.mem_append.1 ho with h2 | h2
      · exact (hw.mine (.os c2) (by simp)).1 o h2
      · exact (hw.mine (.os c) (by simp)).1 o h2
variable {α ρ : Type} {r : ρ} {row : α → List Value → List Value} {sds : α → List Value → List Sd} {vs vs2 : Nat → List Value} {l l2 : List α} {a : Int} {u0 u1 : α} {f : List α → Option ρ}
theorem L.appHzP (h : bind1 (app l l2) f = some r) (hd : Nat.blt d n = true) (hu : P.underlying tx = some (.slice e)) (he : elemB P e k by' = true) (hx : val fs x = some v) (hy : val fs y = some u) (hb : Nat.ble by' 56 = true)
    (hm : m[i]? = some (.sl v e k (zr row vs l))) (hB : ∀ w, Cls w0 own m w → At w u k (zr row vs2 l2)) (hp : PlZ row sds) (hK : StbF K w0 own) (hl0 : m.getLast? = some (.os c)) (h1 : FzA K c (zs sds vs l)) (h2 : FzA K c (zs sds vs2 l2))
    (next : ∀ v' vs' z, app l l2 = some z → f z = some r → FzA K c (zs sds vs' z) → L P ops Q n (Cls w0 own (.sl v' e k (zr row vs' z) :: m.eraseIdx i)) rest ((d, v') :: fs)) :
    L P ops Q n (Cls w0 own m) (⟨some d, .call ⟨.builtin .append, #[x, y], #[tx, tx]⟩, t, pos, af, none⟩ :: rest) fs := by
  obtain ⟨z, hz, h⟩ := bind1S h
  obtain ⟨rfl, hl⟩ := app_some hz
  have hb' : by' ≤ 56 := by simpa using hb
  intro ac w hs hw
  refine L.append (i := i) hd hu he hx hy hm hB (plain_zr hp (h2.onesP hK hw hl0)) (by rw [zr_length, zr_length]; unfold maxLen; omega) ?_ (fun v' => ?_) ac w hs hw
  · rw [zr_length, zr_length]
    calc (l.length + l2.length) * by' ≤ 2513169434916 * 56 := Nat.mul_le_mul hl hb'
      _ ≤ _ := by decide
  · rw [← zr_app]
    exact next v' (gapp vs vs2 l.length) _ hz h (by rw [zs_app]; exact h1.app h2)
theorem L.insHzP {F : List α → Option ρ} {x1 : α} {f : FuncId} {ts : Array TypeId} (h : bind1 (xInsR l a x1) F = some r) (hS : InsR P f e k (Rw.r (k := k))) (hd : Nat.blt d n = true) (he : entB P f = true) (hx : val fs x = some v) (hm : m[i]? = some (.sl v e k (zr row vs l)))
    (hy : val fs y = some (.int .i64 a)) (hz : val fs z = some (sv b 1)) (hj : m[j]? = some (.sl (sv b 1) e k (zr row vs2 [x1]))) (hij : i ≠ j) (hp : PlZ row sds) (hlen : ∀ z v, (row z v).length = k) (hK : StbF K w0 own) (hl0 : m.getLast? = some (.os c)) (h1 : FzA K c (zs sds vs l)) (h2 : FzA K c (zs sds vs2 [x1]))
    (next : ∀ v' vs' q, xInsR l a x1 = some q → F q = some r → FzA K c (zs sds vs' q) → L P ops Q n (Cls w0 own (m.set i (.sl v' e k (zr row vs' q)))) rest ((d, v') :: fs)) : L P ops Q n (Cls w0 own m) (⟨some d, .call ⟨.value (.func f), #[x, y, z], ts⟩, t, pos, af, none⟩ :: rest) fs := by
  obtain ⟨q, hq, h⟩ := bind1S h
  obtain ⟨⟨h3, h4, h5⟩, rfl⟩ := xInsR_some hq
  have hwid : ∀ (vs : Nat → List Value) (l : List α), ∀ r ∈ zr row vs l, r.length = k := by
    intro vs l
    induction l generalizing vs with
    | nil => intro r hr; cases hr
    | cons y l ih =>
      intro r hr
      rcases List.mem_cons.1 hr with rfl | hr
      · exact hlen _ _
      · exact ih _ r hr
  intro ac w hs hw
  obtain ⟨q1, hq1⟩ := rw_of (hwid vs l) (plain_zr hp (h1.onesP hK hw hl0))
  obtain ⟨q2, hq2⟩ := rw_of (hwid vs2 [x1]) (plain_zr hp (h2.onesP hK hw hl0))
  have hln : q1.length = l.length := by
    have := congrArg List.length hq1
    rw [zr_length, List.length_map] at this
    exact this.symm
  obtain ⟨y1, rfl⟩ : ∃ y1, q2 = [y1] := by
    have := congrArg List.length hq2
    rw [zr_length, List.length_map, List.length_singleton] at this
    exact List.length_eq_one_iff.1 this.symm
  have hx1 : xInsR q1 a y1 = some (q1.take a.toNat ++ [y1] ++ q1.drop a.toNat) := by
    unfold xInsR
    rw [hln, if_pos ⟨h3, h4, h5⟩]
  have e1 : (l.take a.toNat).length = a.toNat := by rw [List.length_take]; omega
  have hz1 := zr_app row vs vs2 (l.take a.toNat) [x1]
  rw [e1] at hz1
  have e2 : (l.take a.toNat ++ [x1]).length = a.toNat + 1 := by rw [List.length_append, e1]; rfl
  have hz2 := zr_app row (gapp vs vs2 a.toNat) (fun q => vs (q + a.toNat)) (l.take a.toNat ++ [x1]) (l.drop a.toNat)
  have hs1 := zs_app sds vs vs2 (l.take a.toNat) [x1]
  rw [e1] at hs1
  have hs2 := zs_app sds (gapp vs vs2 a.toNat) (fun q => vs (q + a.toNat)) (l.take a.toNat ++ [x1]) (l.drop a.toNat)
  rw [e2] at hz2 hs2
  refine L.insRD (i := i) (j := j) (l := q1) (x1 := y1) (row := Rw.r (k := k)) (F := fun q => some q) (r := q1.take a.toNat ++ [y1] ++ q1.drop a.toNat) (by rw [hx1]; rfl) hS (fun z => z.len) hd he hx (by rw [← hq1]; exact hm) hy hz (by rw [← hq2]; exact hj) hij (fun v' q hq3 _ => ?_) ac w hs hw
  rw [hx1] at hq3
  obtain rfl := (Option.some.inj hq3)
  have key : (q1.take a.toNat ++ [y1] ++ q1.drop a.toNat).map (Rw.r (k := k)) = zr row (gapp (gapp vs vs2 a.toNat) (fun q => vs (q + a.toNat)) (a.toNat + 1)) (l.take a.toNat ++ [x1] ++ l.drop a.toNat) := by
    rw [hz2, hz1, zr_take, zr_drop, hq1, hq2, List.map_append, List.map_append, List.map_take, List.map_drop]
  rw [key]
  exact next v' _ _ hq h (by rw [hs2, hs1]; exact (FzA.app (FzA.app (zs_mem_take h1) h2) (zs_mem_drop h1)))
theorem L.litOneC (hd : Nat.blt d n = true) (hu : P.underlying tx = some (.slice e)) (he : elemB P e 1 by' = true) (hx : val fs x = some v) (hv : ∀ w, Cls w0 own m w → v.cells = #[v])
    (next : ∀ b, L P ops Q n (Cls w0 own (.sl (sv b 1) e 1 [[v]] :: m)) rest ((d, sv b 1) :: fs)) : L P ops Q n (Cls w0 own m) (⟨some d, .buildSlice tx 1 #[(0, x)], t, pos, af, none⟩ :: rest) fs :=
  fun a w hs hw => L.litOne hd hu he hx (hv w hw) next a w hs hw
end
end Go.S
