/-
  Operations on memory: addresses, loads, calls; new blocks, stores.
  Conditions: none.
-/
import Derived.Test.YtdebhhjbgbkbjaaM
namespace Go.S
variable {P : Program} {Q : Exit → Act → World → Prop} {n : Nat} {C : World → Prop} {fs : Fr} {t : TypeId} {ops : Array Oper} {rest : List Oper} {d : Nat} {pos : String} {af : Array Edge}

def szB (P : Program) (t : TypeId) (k : Nat) : Bool := match P.info? t with
  | some i => Nat.beq i.size k
  | none => false
def aggB (P : Program) (t : TypeId) (b : Bool) : Bool := match P.underlying t, b with
  | some (.struct _), b => b
  | some (.array _ _), b => b
  | some _, b => !b
  | none, _ => false
def fieldB (P : Program) (s : TypeId) (j fo : Nat) : Bool := match P.underlying s with
  | some (.struct fields) => match fields[j]? with
    | some f => Nat.beq f.offset fo && (match P.info? f.type with | some i => !(Nat.beq i.size 0) | none => false)
    | none => false
  | _ => false
def entB (P : Program) (f : FuncId) : Bool := match P.funcs[f]? with
  | some fn => !(fn.name == "runtime.NumGoroutine") && !fn.body.isNone
  | none => false

theorem run_sizeOf {k : Nat} (h : szB P t k = true) (w : World) : (sizeOf t).run P w = .ok k w := by
  unfold szB at h
  cases hi : P.info? t with
  | none => simp [hi] at h
  | some i =>
    simp only [hi] at h
    simp [sizeOf, typeInfo, hi, Nat.eq_of_beq_eq_true h]
theorem run_isAgg {b : Bool} (h : aggB P t b = true) (w : World) : (isAgg t).run P w = .ok b w := by
  unfold aggB at h
  cases hu : P.underlying t with
  | none => simp [hu] at h
  | some ds =>
    simp only [isAgg, Sem.run_bind, run_underlying hu, Result.andThen]
    cases ds <;> simp_all

theorem run_loadVar1 (ha : aggB P t false = true) {a : Addr} {w : World} {x : Value} (hc : w.cell? a = some x) : (loadVar t a).run P w = .ok x w := by
  simp [loadVar, run_isAgg ha, hc]
theorem run_loadVarN {k : Nat} (ha : aggB P t true = true) (hs : szB P t k = true) {a : Addr} {w : World} {vs : List Value} (hk : vs.length = k) (hc : ∀ j x, vs[j]? = some x → w.cell? (a.add j) = some x) : (loadVar t a).run P w = .ok (.agg vs.toArray) w := by
  subst hk
  simp [loadVar, run_isAgg ha, run_sizeOf hs, run_loadCells_list w a vs hc]

/-! ### Loads -/
theorem Y.load1 {x : Operand} {a : Addr} {v : Value} {te : TypeId} (ha : aggB P te false = true) (hx : val fs x = some (.pointer (some a))) (hc : ∀ w, C w → w.cell? a = some v) : Y P (.load te x) t n fs C v :=
  Y.of fun d pos af g s w hs hw => by
    simp only [execOp, hs.eval hx]
    simp [Instr.loadAt, Instr.sureAddr, run_loadVar1 ha (hc w hw)]
theorem Y.loadN {x : Operand} {a : Addr} {vs : List Value} {te : TypeId} {k : Nat} (ha : aggB P te true = true) (hsz : szB P te k = true) (hx : val fs x = some (.pointer (some a))) (hk : vs.length = k)
    (hc : ∀ w, C w → ∀ j x, vs[j]? = some x → w.cell? (a.add j) = some x) : Y P (.load te x) t n fs C (.agg vs.toArray) :=
  Y.of fun d pos af g s w hs hw => by
    simp only [execOp, hs.eval hx]
    simp [Instr.loadAt, Instr.sureAddr, run_loadVarN ha hsz hk (hc w hw)]
theorem Y.nilCheck {x : Operand} {a : Addr} (hx : val fs x = some (.pointer (some a))) : Y P (.nilCheck x) t n fs C (.pointer (some a)) :=
  Y.of fun d pos af g s w hs hw => by
    simp only [execOp, hs.eval hx]
    simp

/-! ### Addresses -/
theorem Y.fieldAny {x : Operand} {a : Addr} {s : TypeId} {j fo : Nat} (hf : fieldB P s j fo = true) (hx : val fs x = some (.pointer (some a))) : Y P (.fieldAddr s x j) t n fs C (.pointer (some (a.add fo))) :=
  Y.of fun d pos af g s' w hs hw => by
    simp only [execOp, hs.eval hx]
    unfold fieldB at hf
    cases hu : P.underlying s with
    | none => simp [hu] at hf
    | some ds =>
      cases ds with
      | struct fields =>
        simp only [hu] at hf
        cases hj : fields[j]? with
        | none => simp [hj] at hf
        | some f =>
          simp only [hj, Bool.and_eq_true] at hf
          obtain ⟨h1, h2⟩ := hf
          cases hi : P.info? f.type with
          | none => simp [hi] at h2
          | some i =>
            simp only [hi, Bool.not_eq_true'] at h2
            have h3 : i.size ≠ 0 := Nat.ne_of_beq_eq_false h2
            have h4 : f.offset = fo := Nat.eq_of_beq_eq_true h1
            simp [Instr.fieldAt, run_underlying hu, hj, Instr.sureAddr, fieldPlace, sizeOf, typeInfo, hi, h3, h4]
      | _ => simp [hu] at hf
theorem add_add (a : Addr) (x y : Nat) : (a.add x).add y = a.add (x + y) := Go.Deep.add_add a x y
def pt (b off : Nat) : Value := .pointer (some ⟨b, off, none⟩)
theorem Y.fieldP {x : Operand} {b off : Nat} {s : TypeId} {j fo : Nat} (hf : fieldB P s j fo = true) (hx : val fs x = some (pt b off)) : Y P (.fieldAddr s x j) t n fs C (pt b (off + fo)) := by
  have := Y.fieldAny (t := t) (C := C) (n := n) hf (x := x) (a := ⟨b, off, none⟩) hx
  rwa [Addr.add_lit] at this

theorem Y.indexE {x y : Operand} {v : Value} {k : Nat} {rows : List (List Value)} {ik : IntKind} {i : Int} {tx e : TypeId} (hu : P.underlying tx = some (.slice e)) (hsz : szB P e k = true) (hx : val fs x = some v) (hy : val fs y = some (.int ik i))
    (hA : ∀ w, C w → At w v k rows) (h0 : 0 ≤ i) (h1 : i < rows.length) : Y P (.indexAddr tx x y) t n fs C (el v (i.toNat * k)) :=
  Y.of fun d pos af g s w hs hw => by
    simp only [execOp, hs.eval hx, hs.eval hy]
    rcases (hA w hw).shape with ⟨rfl, rfl⟩ | ⟨a, cap, rfl, _, _⟩
    · simp at h1; omega
    · have h2 : 0 ≤ i ∧ i < (rows.length : Int) := ⟨h0, h1⟩
      simp [Instr.indexAt, run_underlying hu, asIntOf, h2, run_sizeOf hsz, el, adr]
theorem Y.lenA {x : Operand} {v : Value} {k : Nat} {rows : List (List Value)} {tx e : TypeId} (hu : P.underlying tx = some (.slice e)) (hx : val fs x = some v) (hA : ∀ w, C w → At w v k rows) : Y P (.call ⟨.builtin .len, #[x], #[tx]⟩) t n fs C (.int .i64 rows.length) :=
  Y.of fun d pos af g s w hs hw => by
    simp only [execOp, resolve, List.map_toArray, List.map_cons, List.map_nil, hs.eval hx]
    rcases (hA w hw).shape with ⟨rfl, rfl⟩ | ⟨a, cap, rfl, _, _⟩ <;> simp [invoke, builtin, Builtin.len_, run_underlying hu, goInt]

/-! ### Calls -/
theorem run_call {f : FuncId} (he : entB P f = true) (args : Array Value) (w : World) : (callFunc f args).run P w = .ok (.enter f args) w := by
  unfold entB at he
  cases hf : P.funcs[f]? with
  | none => simp [hf] at he
  | some fn =>
    simp only [hf, Bool.and_eq_true, Bool.not_eq_true'] at he
    obtain ⟨h1, h2⟩ := he
    have h3 : ¬ fn.name = "runtime.NumGoroutine" := by simpa using h1
    have h4 : ¬ fn.body = none := by intro h; simp [h] at h2
    simp [callFunc, hf, h3, h4]

/-- A call that only reads (or lays memory of which nothing is told). -/
theorem Y.call {f : FuncId} {xs : List Operand} {ts : Array TypeId} {vs : List Value} {v : Value} (he : entB P f = true) (hx : vals fs xs = some vs)
    (hc : ∀ w, C w → Calls P f vs.toArray w fun e w' => e = .returned v ∧ C w') : Y P (.call ⟨.value (.func f), xs.toArray, ts⟩) t n fs C v := by
  intro d pos af g a w hs hw
  have h1 := hs.evals hx
  have : (execOp a.eval ⟨d, .call ⟨.value (.func f), xs.toArray, ts⟩, t, pos, af, g⟩).run P w = .ok (.enter f vs.toArray) w := by
    simp only [execOp, resolve, List.map_toArray, h1]
    simp [Act.eval, Deferred.ofValue, invoke, run_call he]
  rw [this]
  exact ⟨rfl, hc w hw⟩
/-- Any call. -/
theorem L.call {f : FuncId} {xs : List Operand} {ts : Array TypeId} {vs : List Value} {R : Value → World → Prop} (hd : Nat.blt d n = true) (he : entB P f = true) (hx : vals fs xs = some vs)
    (hc : ∀ w, C w → Calls P f vs.toArray w fun e w' => ∃ v, e = .returned v ∧ R v w') (k : ∀ v, L P ops Q n (R v) rest ((d, v) :: fs)) : L P ops Q n C (⟨some d, .call ⟨.value (.func f), xs.toArray, ts⟩, t, pos, af, none⟩ :: rest) fs := by
  intro a w hs hw
  have h1 := hs.evals hx
  have : (execOp a.eval ⟨some d, .call ⟨.value (.func f), xs.toArray, ts⟩, t, pos, af, none⟩).run P w = .ok (.enter f vs.toArray) w := by
    simp only [execOp, resolve, List.map_toArray, h1]
    simp [Act.eval, Deferred.ofValue, invoke, run_call he]
  simp only [wpList, Region.wanted, if_true]
  refine .inl ?_
  unfold Oper.wp
  rw [this]
  refine (hc w hw).mono ?_
  rintro e w' ⟨v, rfl, hv⟩
  exact k v _ w' (hs.put hd v) hv

/-- What a call that takes nothing over does: it returns a value, and things of its own. -/
def Does (P : Program) (f : FuncId) (vs : List Value) (w : World) (R : Value → List As → Prop) : Prop := Calls P f vs.toArray w fun e w' => ∃ v m, e = .returned v ∧ R v m ∧ Cls w [] m w'
theorem Does.mono {f : FuncId} {vs : List Value} {w : World} {R R' : Value → List As → Prop} (h : Does P f vs w R) (hr : ∀ v m, R v m → R' v m) : Does P f vs w R' :=
  Calls.mono h fun _ _ ⟨v, m, he, hv, hc⟩ => ⟨v, m, he, hr _ _ hv, hc⟩

theorem L.does {f : FuncId} {xs : List Operand} {ts : Array TypeId} {vs : List Value} {R : Value → List As → Prop} {w0 : World} {own : List Nat} {m : List As} (hd : Nat.blt d n = true) (he : entB P f = true) (hx : vals fs xs = some vs)
    (hc : ∀ w, Cls w0 own m w → Does P f vs w R) (k : ∀ v m', R v m' → L P ops Q n (Cls w0 own (m' ++ m)) rest ((d, v) :: fs)) : L P ops Q n (Cls w0 own m) (⟨some d, .call ⟨.value (.func f), xs.toArray, ts⟩, t, pos, af, none⟩ :: rest) fs := by
  refine L.call (R := fun v w' => ∃ m', R v m' ∧ Cls w0 own (m' ++ m) w') hd he hx (fun w hw => Calls.mono (hc w hw) ?_) fun v => L.ex fun m' => ?_
  · rintro e w' ⟨v, m', rfl, hv, hcl⟩
    exact ⟨v, rfl, m', hv, hw.call hcl⟩
  · rintro a w hs ⟨hr, hcl⟩
    exact k v m' hr a w hs hcl
/-- A call whose answer is known, and that leaves nothing that is kept. -/
theorem Y.does {f : FuncId} {xs : List Operand} {ts : Array TypeId} {vs : List Value} {v : Value} {w0 : World} {own : List Nat} {m : List As} (he : entB P f = true) (hx : vals fs xs = some vs)
    (hc : ∀ w, Cls w0 own m w → Does P f vs w fun u _ => u = v) : Y P (.call ⟨.value (.func f), xs.toArray, ts⟩) t n fs (Cls w0 own m) v :=
  Y.call he hx fun w hw => Calls.mono (hc w hw) fun e w' ⟨u, m', he', hu, hcl⟩ => ⟨by rw [he', hu], (hw.call hcl).sublist (List.sublist_append_right _ _)⟩
end Go.S
