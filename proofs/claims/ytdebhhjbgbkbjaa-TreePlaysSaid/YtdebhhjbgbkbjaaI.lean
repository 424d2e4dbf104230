/-
  A call whose body is walked where it is called.
  Conditions: none.
-/
import Derived.Test.YtdebhhjbgbkbjaaV
namespace Go.S
section
variable {P : Program} {Q : Exit → Act → World → Prop} {n n' : Nat} {C : World → Prop} {fs : Fr} {ops : Array Oper} {rest : List Oper} {d : Nat} {t : TypeId} {pos : String} {af : Array Edge}
/-- What follows a call: its value, and the class of the world behind it. -/
def KC (J : Value → (World → Prop) → Prop) : Ending → World → Prop := fun e w => ∃ v D, e = .returned v ∧ J v D ∧ D w
theorem run_callF {f : FuncId} {xs : List Operand} {ts : Array TypeId} {vs : List Value} (he : entB P f = true) (hx : vals fs xs = some vs) {a : Act} (hs : Slots n fs a) (w : World) (o : Option Tmp) :
    (execOp a.eval ⟨o, .call ⟨.value (.func f), xs.toArray, ts⟩, t, pos, af, none⟩).run P w = .ok (.enter f vs.toArray) w := by
  have h1 := hs.evals hx
  simp only [execOp, resolve, List.map_toArray, h1]
  simp [Act.eval, Deferred.ofValue, invoke, run_call he]
theorem run_callV {f : FuncId} {x : Operand} {cap : List Value} {xs : List Operand} {ts : Array TypeId} {vs : List Value} (he : entB P f = true) (hf : val fs x = some (.func (.func f) #[] cap.toArray)) (hx : vals fs xs = some vs) {a : Act} (hs : Slots n fs a) (w : World) (o : Option Tmp) :
    (execOp a.eval ⟨o, .call ⟨.value x, xs.toArray, ts⟩, t, pos, af, none⟩).run P w = .ok (.enter f (vs ++ cap).toArray) w := by
  have h1 := hs.evals hx
  simp only [execOp, resolve, List.map_toArray, h1, hs.eval hf]
  simp [Deferred.ofValue, invoke, run_call he]
theorem L.enterJ {op : Op} {o : Option Tmp} {f : FuncId} {fn : Func} {c : Code} {vs : List Value} (J : Value → (World → Prop) → Prop)
    (hr : ∀ a w, Slots n fs a → (execOp a.eval ⟨o, op, t, pos, af, none⟩).run P w = .ok (.enter f vs.toArray) w)
    (hf : P.funcs[f]? = some fn) (hb : fn.body = some c) (hn : fn.ntmps = n') (hl : Nat.ble vs.length n' = true) (h1 : W P (bodyPost P fn (KC J)) n' C c (args 0 vs))
    (h2 : ∀ v D a w, J v D → D w → Slots n fs a → wpList P ops Q rest (a.put o v) w) : L P ops Q n C (⟨o, op, t, pos, af, none⟩ :: rest) fs := by
  intro a w hs hw
  simp only [wpList, Region.wanted, if_true]
  refine .inl ?_
  unfold Oper.wp
  rw [hr a w hs]
  refine (body hf hb hn hl hw h1).mono ?_
  rintro e w' ⟨v, D, rfl, hj, hd⟩
  exact h2 v D a w' hj hd hs
theorem L.callJ {f : FuncId} {fn : Func} {c : Code} {xs : List Operand} {ts : Array TypeId} {vs : List Value} (J : Value → (World → Prop) → Prop) (hd : Nat.blt d n = true) (he : entB P f = true) (hx : vals fs xs = some vs)
    (hf : P.funcs[f]? = some fn) (hb : fn.body = some c) (hn : fn.ntmps = n') (hl : Nat.ble vs.length n' = true) (h1 : W P (bodyPost P fn (KC J)) n' C c (args 0 vs))
    (h2 : ∀ v D, J v D → L P ops Q n D rest ((d, v) :: fs)) : L P ops Q n C (⟨some d, .call ⟨.value (.func f), xs.toArray, ts⟩, t, pos, af, none⟩ :: rest) fs :=
  L.enterJ J (fun _ w hs => run_callF he hx hs w _) hf hb hn hl h1 fun v D _ w hj hD hs => h2 v D hj _ w (hs.put hd v) hD
theorem L.callVJ {f : FuncId} {fn : Func} {c : Code} {x : Operand} {cap : List Value} {xs : List Operand} {ts : Array TypeId} {vs : List Value} (J : Value → (World → Prop) → Prop) (hd : Nat.blt d n = true) (he : entB P f = true) (hv : val fs x = some (.func (.func f) #[] cap.toArray)) (hx : vals fs xs = some vs)
    (hf : P.funcs[f]? = some fn) (hb : fn.body = some c) (hn : fn.ntmps = n') (hl : Nat.ble (vs ++ cap).length n' = true) (h1 : W P (bodyPost P fn (KC J)) n' C c (args 0 (vs ++ cap)))
    (h2 : ∀ v D, J v D → L P ops Q n D rest ((d, v) :: fs)) : L P ops Q n C (⟨some d, .call ⟨.value x, xs.toArray, ts⟩, t, pos, af, none⟩ :: rest) fs :=
  L.enterJ J (fun _ w hs => run_callV he hv hx hs w _) hf hb hn hl h1 fun v D _ w hj hD hs => h2 v D hj _ w (hs.put hd v) hD
/-! A Bool that is held, parted. -/
theorem Slots.again {a : Act} {k : Nat} {v : Value} (hv : look fs k = some v) (h : Slots n fs a) : Slots n ((k, v) :: fs) a :=
  ⟨h.defers, h.size, fun q u hq => by
    simp only [look] at hq
    cases hb : Nat.beq k q with
    | true =>
      have : k = q := Nat.eq_of_beq_eq_true hb
      simp only [hb, Option.some.injEq] at hq
      subst this; subst hq
      exact h.here _ _ hv
    | false => simp only [hb] at hq; exact h.here q u hq⟩
section
variable {ρ : Type} {r : ρ} {A B : Option ρ} {b : Bool} {q : Nat}
theorem W.caseB {c : Code} (h : (if b = true then A else B) = some r) (hv : look fs q = some (.bool b)) (k1 : A = some r → W P Q n C c ((q, .bool true) :: fs)) (k2 : B = some r → W P Q n C c ((q, .bool false) :: fs)) : W P Q n C c fs := by
  cases b with
  | true => exact fun a w hs hc => k1 h a w (hs.again hv) hc
  | false => exact fun a w hs hc => k2 (by simpa using h) a w (hs.again hv) hc
theorem L.caseB {l : List Oper} (h : (if b = true then A else B) = some r) (hv : look fs q = some (.bool b)) (k1 : A = some r → L P ops Q n C l ((q, .bool true) :: fs)) (k2 : B = some r → L P ops Q n C l ((q, .bool false) :: fs)) : L P ops Q n C l fs := by
  cases b with
  | true => exact fun a w hs hc => k1 h a w (hs.again hv) hc
  | false => exact fun a w hs hc => k2 (by simpa using h) a w (hs.again hv) hc
theorem U.caseB {l : List Oper} (h : (if b = true then A else B) = some r) (hv : look fs q = some (.bool b)) (k1 : A = some r → U P ops Q n C l ((q, .bool true) :: fs)) (k2 : B = some r → U P ops Q n C l ((q, .bool false) :: fs)) : U P ops Q n C l fs := by
  cases b with
  | true => exact fun a hs => k1 h a (hs.again hv)
  | false => exact fun a hs => k2 (by simpa using h) a (hs.again hv)
theorem V.caseB {listed : Array Bool} {k : Nat} {D : World → Prop} (h : (if b = true then A else B) = some r) (hv : look fs q = some (.bool b)) (k1 : A = some r → V P ops Q n listed k C D ((q, .bool true) :: fs)) (k2 : B = some r → V P ops Q n listed k C D ((q, .bool false) :: fs)) : V P ops Q n listed k C D fs := by
  cases b with
  | true => exact fun a w hs hc hd => k1 h a w (hs.again hv) hc hd
  | false => exact fun a w hs hc hd => k2 (by simpa using h) a w (hs.again hv) hc hd
end
end
end Go.S
