/-
  A small logic over the kit's 'wp': what is known of a frame is a list of slots, what is known of memory is a list of owned things. Laws for code and for the operations that only read.
  Conditions: none.
-/
import Derived.WalkKit
import Derived.KernelRfl
import Derived.Deep.Quiet
namespace Go.S

/-! ### The frame -/
abbrev Fr := List (Nat × Value)

def look : Fr → Nat → Option Value
  | [], _ => none
  | (t, v) :: r, k => match Nat.beq t k with
    | true => some v
    | false => look r k

structure Slots (n : Nat) (fs : Fr) (a : Act) : Prop where
  defers : a.defers = []
  size : a.tmps.size = n
  here : ∀ t v, look fs t = some v → a.tmps[t]? = some v

def val (fs : Fr) : Operand → Option Value
  | .tmp t => look fs t
  | .const v => some v
  | .global g => some (.pointer (some ⟨g, 0, none⟩))
  | .func f => some (.func (.func f) #[] #[])

def vals (fs : Fr) : List Operand → Option (List Value)
  | [] => some []
  | x :: r => match val fs x with
    | some v => match vals fs r with
      | some vs => some (v :: vs)
      | none => none
    | none => none

theorem Slots.eval {n : Nat} {fs : Fr} {a : Act} (h : Slots n fs a) {x : Operand} {v : Value} (hv : val fs x = some v) : a.eval x = v := by
  cases x with
  | tmp t =>
    have := h.here t v hv
    simp [Act.eval, Array.getD_eq_getD_getElem?, this]
  | _ => simp only [val, Option.some.injEq] at hv; subst hv; rfl

theorem Slots.evals {n : Nat} {fs : Fr} {a : Act} (h : Slots n fs a) : ∀ {xs : List Operand} {vs : List Value}, vals fs xs = some vs → xs.map a.eval = vs
  | [], vs, hv => by simp only [vals, Option.some.injEq] at hv; subst hv; rfl
  | x :: r, vs, hv => by
    simp only [vals] at hv
    cases h1 : val fs x with
    | none => simp [h1] at hv
    | some v =>
      cases h2 : vals fs r with
      | none => simp [h1, h2] at hv
      | some vs' =>
        simp only [h1, h2, Option.some.injEq] at hv
        subst hv
        simp [h.eval h1, h.evals h2]

theorem Slots.put {n : Nat} {fs : Fr} {a : Act} (h : Slots n fs a) {d : Nat} (hd : Nat.blt d n = true) (v : Value) : Slots n ((d, v) :: fs) (a.put (some d) v) := by
  have hd' : d < n := by simpa [Nat.blt_eq] using hd
  refine ⟨h.defers, by simp [Act.put, h.size], fun t u hu => ?_⟩
  simp only [look] at hu
  simp only [Act.put]
  cases hb : Nat.beq d t with
  | true =>
    have : d = t := Nat.eq_of_beq_eq_true hb
    simp only [hb, Option.some.injEq] at hu
    subst this; subst hu
    simp [h.size, hd']
  | false =>
    have hne : d ≠ t := Nat.ne_of_beq_eq_false hb
    simp only [hb] at hu
    rw [Array.getElem?_setIfInBounds_ne hne]
    exact h.here t u hu

def Sub : Fr → Fr → Prop
  | [], _ => True
  | (t, v) :: r, fs => look fs t = some v ∧ Sub r fs

theorem Sub.look {fs : Fr} : ∀ {gs : Fr}, Sub gs fs → ∀ t v, look gs t = some v → look fs t = some v
  | [], _, t, v, h => by simp [S.look] at h
  | (t', v') :: r, hs, t, v, h => by
    simp only [S.look] at h
    cases hb : Nat.beq t' t with
    | true =>
      have : t' = t := Nat.eq_of_beq_eq_true hb
      simp only [hb, Option.some.injEq] at h
      subst this; subst h
      exact hs.1
    | false =>
      simp only [hb] at h
      exact Sub.look hs.2 t v h

theorem Slots.sub {n : Nat} {fs gs : Fr} {a : Act} (h : Slots n fs a) (hs : Sub gs fs) : Slots n gs a :=
  ⟨h.defers, h.size, fun t v hv => h.here t v (hs.look t v hv)⟩

theorem Slots.enter (args : List Value) (n : Nat) : ∀ (fs : Fr), (∀ t v, look fs t = some v → (args ++ List.replicate (n - args.length) undef)[t]? = some v) → args.length ≤ n →
    Slots n fs { tmps := args.toArray ++ Array.replicate (n - args.toArray.size) undef, defers := [] } :=
  fun fs h hl => ⟨rfl, by simp; omega, fun t v hv => by
    have := h t v hv
    simpa [← List.toArray_replicate] using this⟩

def args : Nat → List Value → Fr
  | _, [] => []
  | k, v :: r => (k, v) :: args (k + 1) r

theorem look_args : ∀ (l : List Value) (k t : Nat) (v : Value), look (args k l) t = some v → k ≤ t ∧ l[t - k]? = some v
  | [], k, t, v, h => by simp [args, look] at h
  | x :: r, k, t, v, h => by
    simp only [args, look] at h
    cases hb : Nat.beq k t with
    | true =>
      have : k = t := Nat.eq_of_beq_eq_true hb
      subst this
      simp only [hb, Option.some.injEq] at h
      subst h
      simp
    | false =>
      have hne : k ≠ t := Nat.ne_of_beq_eq_false hb
      simp only [hb] at h
      obtain ⟨h1, h2⟩ := look_args r (k + 1) t v h
      refine ⟨by omega, ?_⟩
      rw [show t - k = (t - (k + 1)) + 1 by omega]
      simpa using h2

/-! ### Code -/
/-- The exit 'e' is reached with these slots, in a world of C. -/
def E (e : Exit) (Q : Exit → Act → World → Prop) (n : Nat) (C : World → Prop) (fs : Fr) : Prop := ∀ a w, Slots n fs a → C w → Q e a w
def W (P : Program) (Q : Exit → Act → World → Prop) (n : Nat) (C : World → Prop) (c : Code) (fs : Fr) : Prop := ∀ a w, Slots n fs a → C w → c.wp P Q a w
def L (P : Program) (ops : Array Oper) (Q : Exit → Act → World → Prop) (n : Nat) (C : World → Prop) (l : List Oper) (fs : Fr) : Prop := ∀ a w, Slots n fs a → C w → wpList P ops Q l a w
/-- A region that draws its order and only reads: in the order of the text. -/
def U (P : Program) (ops : Array Oper) (Q : Exit → Act → World → Prop) (n : Nat) (C : World → Prop) (l : List Oper) (fs : Fr) : Prop :=
  ∀ a, Slots n fs a → wpQuiet P ops C (fun a' => ∀ w', C w' → Q .normal a' w') l a

section
variable {P : Program} {Q : Exit → Act → World → Prop} {n : Nat} {C : World → Prop} {fs : Fr}

theorem W.seq {x y : Code} (h : W P (Exit.then (y.wp P Q) Q) n C x fs) : W P Q n C (.seq x y) fs := fun a w hs hc => wp_seq (h a w hs hc)
theorem W.skip (h : E .normal Q n C fs) : W P Q n C .skip fs := fun a w hs hc => wp_skip (h a w hs hc)
theorem W.exit {id : Nat} (h : E (.exit id) Q n C fs) : W P Q n C (.exit id) fs := fun a w hs hc => wp_exit (h a w hs hc)
theorem W.ret (h : E .ret Q n C fs) : W P Q n C .ret fs := fun a w hs hc => wp_ret (h a w hs hc)
theorem W.block {id : Nat} {c : Code} (h : W P (Exit.inBlock id Q) n C c fs) : W P Q n C (.block id c) fs := fun a w hs hc => wp_block (h a w hs hc)
theorem W.condT {c : Operand} {x y : Code} (hc : val fs c = some (.bool true)) (h : W P Q n C x fs) : W P Q n C (.cond c x y) fs :=
  fun a w hs hw => wp_cond_true (hs.eval hc) (h a w hs hw)
theorem W.condF {c : Operand} {x y : Code} (hc : val fs c = some (.bool false)) (h : W P Q n C y fs) : W P Q n C (.cond c x y) fs :=
  fun a w hs hw => wp_cond_false (hs.eval hc) (h a w hs hw)
theorem W.region {id : Nat} {l : List Oper} (h : L P l.toArray Q n C l fs) : W P Q n C (.region id l.toArray false) fs :=
  fun a w hs hc => wp_region_list (by simpa using h a w hs hc)
theorem W.ex {c : Code} {X : Type} {D : X → World → Prop} (h : ∀ x, W P Q n (D x) c fs) : W P Q n (fun w => ∃ x, D x w) c fs := fun a w hs ⟨x, hx⟩ => h x a w hs hx
theorem E.thenN {y : Code} (h : W P Q n C y fs) : E .normal (Exit.then (y.wp P Q) Q) n C fs := h
theorem E.thenX {id : Nat} {K : Act → World → Prop} (h : E (.exit id) Q n C fs) : E (.exit id) (Exit.then K Q) n C fs := h
theorem E.thenR {K : Act → World → Prop} (h : E .ret Q n C fs) : E .ret (Exit.then K Q) n C fs := h
theorem E.blockN {id : Nat} (h : E .normal Q n C fs) : E .normal (Exit.inBlock id Q) n C fs := h
theorem E.blockR {id : Nat} (h : E .ret Q n C fs) : E .ret (Exit.inBlock id Q) n C fs := h
theorem E.blockX {id : Nat} (h : E .normal Q n C fs) : E (.exit id) (Exit.inBlock id Q) n C fs := fun a w hs hc => by simp only [Exit.inBlock, if_true]; exact h a w hs hc
theorem W.loop {c : Code} {X : Type} (F : X → Fr) (D : X → World → Prop) (φ : X → Prop) (μ : X → Nat) (x0 : X) (h0 : φ x0) (hF : Sub (F x0) fs) (hD : ∀ w, C w → D x0 w)
    (round : ∀ x, φ x → W P (Exit.then (fun a w => ∃ x', φ x' ∧ μ x' < μ x ∧ Slots n (F x') a ∧ D x' w) Q) n (D x) c (F x)) : W P Q n C (.loop c) fs := by
  intro a w hs hc
  have key : ∀ k a w, (∃ x, φ x ∧ μ x < k ∧ Slots n (F x) a ∧ D x w) → Code.rounds P c Q k a w := by
    intro k
    induction k with
    | zero => rintro a w ⟨x, _, hk, _⟩; omega
    | succ k ih =>
      rintro a w ⟨x, hx, hk, hs, hd⟩
      rw [rounds_succ]
      refine Code.wp_mono ?_ (round x hx a w hs hd)
      intro e a' w' hq
      cases e with
      | normal =>
        obtain ⟨x', h1, h2, h3, h4⟩ := hq
        exact ih a' w' ⟨x', h1, by omega, h3, h4⟩
      | _ => exact hq
  exact wp_loop_rounds (μ x0 + 1) (key _ a w ⟨x0, h0, by omega, hs.sub hF, hD w hc⟩)

/-- A round's end. -/
theorem E.again {X : Type} {F : X → Fr} {D : X → World → Prop} {φ : X → Prop} {μ : X → Nat} {x : X} (x' : X) (h1 : φ x') (h2 : μ x' < μ x) (hF : Sub (F x') fs) (hD : ∀ w, C w → D x' w) :
    E .normal (Exit.then (fun a w => ∃ x', φ x' ∧ μ x' < μ x ∧ Slots n (F x') a ∧ D x' w) Q) n C fs :=
  fun _ w hs hc => ⟨x', h1, h2, hs.sub hF, hD w hc⟩

/-! ### Lists of operations -/
variable {ops : Array Oper} {rest : List Oper} {d : Nat} {op : Op} {t : TypeId} {pos : String} {af : Array Edge}

theorem L.nil (h : E .normal Q n C fs) : L P ops Q n C [] fs := h
theorem U.nil (h : E .normal Q n C fs) : U P ops Q n C [] fs := fun a hs w' hw => h a w' hs hw

/-- What the operation yields, in every world of the class, leaving it one of the class. -/
def Y (P : Program) (op : Op) (t : TypeId) (n : Nat) (fs : Fr) (C : World → Prop) (v : Value) : Prop :=
  ∀ (d : Option Tmp) (pos : String) (af : Array Edge) (g : Option (Nat × Bool)) a w, Slots n fs a → C w → Oper.quietUpon P C w v ((execOp a.eval ⟨d, op, t, pos, af, g⟩).run P w)

theorem Y.wp {v : Value} (hy : Y P op t n fs C v) (o : Option Tmp) (pos : String) (af : Array Edge) (g : Option (Nat × Bool)) {a : Act} {w : World} (hs : Slots n fs a) (hc : C w)
    {K : Act → World → Prop} {Q : Exit → Act → World → Prop} (hK : ∀ w', C w' → K (a.put o v) w') : Oper.wp P ⟨o, op, t, pos, af, g⟩ a w K Q := by
  have h := hy o pos af g a w hs hc
  unfold Oper.wp
  cases hr : (execOp a.eval ⟨o, op, t, pos, af, g⟩).run P w with
  | halt x w1 => rw [hr] at h; exact h.elim
  | ok x w1 =>
    rw [hr] at h
    cases x with
    | value u => obtain ⟨rfl, rfl⟩ := h; exact hK _ hc
    | skip => obtain ⟨rfl, rfl⟩ := h; exact hK _ hc
    | enter f args =>
      obtain ⟨rfl, hcall⟩ := h
      refine hcall.mono ?_
      rintro e w2 ⟨rfl, hc2⟩
      exact hK _ hc2
    | _ => exact h.elim

theorem L.y {v : Value} (hd : Nat.blt d n = true) (hy : Y P op t n fs C v) (k : L P ops Q n C rest ((d, v) :: fs)) : L P ops Q n C (⟨some d, op, t, pos, af, none⟩ :: rest) fs := by
  intro a w hs hc
  simp only [wpList, Region.wanted, if_true]
  exact .inl (hy.wp _ pos af none hs hc fun w' hc' => k _ w' (hs.put hd v) hc')
theorem U.y {v : Value} (hd : Nat.blt d n = true) (hy : Y P op t n fs C v) (k : U P ops Q n C rest ((d, v) :: fs)) : U P ops Q n C (⟨some d, op, t, pos, af, none⟩ :: rest) fs := by
  intro a hs
  simp only [wpQuiet, Region.wanted, if_true]
  exact ⟨v, fun w hc => hy _ _ _ _ a w hs hc, k _ (hs.put hd v)⟩

theorem L.split {p : Prop} [Decidable p] (hd : Nat.blt d n = true) (hy : Y P op t n fs C (.bool (decide p))) (k1 : p → L P ops Q n C rest ((d, .bool true) :: fs)) (k2 : ¬p → L P ops Q n C rest ((d, .bool false) :: fs)) :
    L P ops Q n C (⟨some d, op, t, pos, af, none⟩ :: rest) fs := by
  by_cases hp : p
  · exact L.y hd (by simpa [hp] using hy) (k1 hp)
  · exact L.y hd (by simpa [hp] using hy) (k2 hp)
theorem U.split {p : Prop} [Decidable p] (hd : Nat.blt d n = true) (hy : Y P op t n fs C (.bool (decide p))) (k1 : p → U P ops Q n C rest ((d, .bool true) :: fs)) (k2 : ¬p → U P ops Q n C rest ((d, .bool false) :: fs)) :
    U P ops Q n C (⟨some d, op, t, pos, af, none⟩ :: rest) fs := by
  by_cases hp : p
  · exact U.y hd (by simpa [hp] using hy) (k1 hp)
  · exact U.y hd (by simpa [hp] using hy) (k2 hp)
theorem L.splitB {b : Bool} (hd : Nat.blt d n = true) (hy : Y P op t n fs C (.bool b)) (k1 : b = true → L P ops Q n C rest ((d, .bool true) :: fs)) (k2 : b = false → L P ops Q n C rest ((d, .bool false) :: fs)) :
    L P ops Q n C (⟨some d, op, t, pos, af, none⟩ :: rest) fs := by
  cases b with
  | true => exact L.y hd hy (k1 rfl)
  | false => exact L.y hd hy (k2 rfl)
theorem U.splitB {b : Bool} (hd : Nat.blt d n = true) (hy : Y P op t n fs C (.bool b)) (k1 : b = true → U P ops Q n C rest ((d, .bool true) :: fs)) (k2 : b = false → U P ops Q n C rest ((d, .bool false) :: fs)) :
    U P ops Q n C (⟨some d, op, t, pos, af, none⟩ :: rest) fs := by
  cases b with
  | true => exact U.y hd hy (k1 rfl)
  | false => exact U.y hd hy (k2 rfl)

/-- What an operation's guard reads. -/
def gd (ops : Array Oper) (fs : Fr) (j : Nat) : Option Value := ((ops[j]?).bind (·.dst)).bind (look fs)

theorem gd_yielded {ops : Array Oper} {a : Act} (hs : Slots n fs a) {j : Nat} {v : Value} (h : gd ops fs j = some v) : ((ops[j]?).bind (·.dst)).bind (a.tmps[·]?) = some v := by
  unfold gd at h
  cases h1 : (ops[j]?).bind (·.dst) with
  | none => simp [h1] at h
  | some t => simp only [h1, Option.bind_some] at h ⊢; exact hs.here t v h

theorem wanted_yes {ops : Array Oper} {a : Act} (hs : Slots n fs a) {j : Nat} {b : Bool} (h : gd ops fs j = some (.bool b)) (o : Option Tmp) : Region.wanted ⟨o, op, t, pos, af, some (j, b)⟩ (yielded ops a.tmps) = true := by
  simp [Region.wanted, yielded, gd_yielded hs h]
theorem wanted_no {ops : Array Oper} {a : Act} (hs : Slots n fs a) {j : Nat} {b : Bool} {v : Value} (h : gd ops fs j = some v) (hne : v ≠ .bool b) (o : Option Tmp) : Region.wanted ⟨o, op, t, pos, af, some (j, b)⟩ (yielded ops a.tmps) = false := by
  simp only [Region.wanted, yielded, gd_yielded hs h]
  cases v with
  | bool c => cases b <;> cases c <;> first | rfl | exact (hne rfl).elim
  | _ => rfl

theorem L.take {j : Nat} {b : Bool} {o : Option Tmp} (hg : gd ops fs j = some (.bool b)) (k : L P ops Q n C (⟨o, op, t, pos, af, none⟩ :: rest) fs) : L P ops Q n C (⟨o, op, t, pos, af, some (j, b)⟩ :: rest) fs := by
  intro a w hs hc
  have h := k a w hs hc
  simp only [wpList, Region.wanted, if_true] at h
  simp only [wpList, wanted_yes hs hg, if_true]
  exact h
theorem U.take {j : Nat} {b : Bool} {o : Option Tmp} (hg : gd ops fs j = some (.bool b)) (k : U P ops Q n C (⟨o, op, t, pos, af, none⟩ :: rest) fs) : U P ops Q n C (⟨o, op, t, pos, af, some (j, b)⟩ :: rest) fs := by
  intro a hs
  have h := k a hs
  simp only [wpQuiet, Region.wanted, if_true] at h
  simp only [wpQuiet, wanted_yes hs hg, if_true]
  exact h
theorem L.pass {j : Nat} {b : Bool} {v : Value} (hd : Nat.blt d n = true) (hg : gd ops fs j = some v) (hne : v ≠ .bool b) (k : L P ops Q n C rest ((d, undef) :: fs)) : L P ops Q n C (⟨some d, op, t, pos, af, some (j, b)⟩ :: rest) fs := by
  intro a w hs hc
  simp only [wpList, wanted_no hs hg hne, Bool.false_eq_true, if_false]
  exact k _ w (hs.put hd _) hc
theorem U.pass {j : Nat} {b : Bool} {v : Value} (hd : Nat.blt d n = true) (hg : gd ops fs j = some v) (hne : v ≠ .bool b) (k : U P ops Q n C rest ((d, undef) :: fs)) : U P ops Q n C (⟨some d, op, t, pos, af, some (j, b)⟩ :: rest) fs := by
  intro a hs
  simp only [wpQuiet, wanted_no hs hg hne, Bool.false_eq_true, if_false]
  exact k _ (hs.put hd _)
theorem L.ex {X : Type} {l : List Oper} {D : X → World → Prop} (h : ∀ x, L P ops Q n (D x) l fs) : L P ops Q n (fun w => ∃ x, D x w) l fs := fun a w hs ⟨x, hx⟩ => h x a w hs hx
/-- A region that draws its order, and whose operations only read. -/
theorem W.quiet {id : Nat} {l : List Oper} (hm : P.follows .mixedOrders = true) (hB : Region.lexB .any l.toArray = true) (hdrew : ∀ w, C w → C { w with drawn := w.drawn + 1 })
    (h : U P l.toArray Q n C l fs) : W P Q n C (.region id l.toArray true) fs :=
  fun a w hs hc => wp_region_quiet hm hB (hdrew w hc) (by simpa using h a hs)

/-! ### A function -/
theorem body {f : FuncId} {fn : Func} {c : Code} {vs : List Value} {R : Ending → World → Prop} {w : World} {C : World → Prop}
    (hf : P.funcs[f]? = some fn) (hb : fn.body = some c) (hn : fn.ntmps = n) (hl : Nat.ble vs.length n = true) (hc : C w) (h : W P (bodyPost P fn R) n C c (args 0 vs)) : Calls P f vs.toArray w R := by
  have hl' : vs.length ≤ n := by simpa using hl
  refine calls_of_wp hf hb ?_
  subst hn
  refine h _ w (Slots.enter vs _ _ (fun t v hv => ?_) hl') hc
  obtain ⟨_, h2⟩ := look_args vs 0 t v hv
  simp only [Nat.sub_zero] at h2
  have : t < vs.length := (List.getElem?_eq_some_iff.1 h2).1
  rw [List.getElem?_append_left this]
  exact h2

theorem E.ret1 {fn : Func} {R : Ending → World → Prop} {t : Tmp} {v : Value} (hr : fn.results = #[.tmp t]) (hv : look fs t = some v) (h : ∀ w, C w → R (.returned v) w) : E .ret (bodyPost P fn R) n C fs := by
  intro a w hs hc
  refine bodyPost_ret (results_tmp hr _ _ _) hs.defers ?_
  have := hs.here t v hv
  simpa [Array.getD_eq_getD_getElem?, this] using h w hc
theorem E.ret2 {fn : Func} {R : Ending → World → Prop} {t u : Tmp} {v x : Value} (hr : fn.results = #[.tmp t, .tmp u]) (hv : look fs t = some v) (hx : look fs u = some x) (h : ∀ w, C w → R (.returned (.tuple #[v, x])) w) :
    E .ret (bodyPost P fn R) n C fs := by
  intro a w hs hc
  refine bodyPost_ret (results_tmp2 hr _ _ _) hs.defers ?_
  have h1 := hs.here t v hv
  have h2 := hs.here u x hx
  simpa [Array.getD_eq_getD_getElem?, h1, h2] using h w hc
theorem E.end0 {fn : Func} {R : Ending → World → Prop} (hr : fn.results = #[]) (h : ∀ w, C w → R (.returned (.tuple #[])) w) : E .normal (bodyPost P fn R) n C fs := by
  intro a w hs hc
  exact bodyPost_end (results_none hr _ _ _) hs.defers (h w hc)
theorem E.ret0 {fn : Func} {R : Ending → World → Prop} (hr : fn.results = #[]) (h : ∀ w, C w → R (.returned (.tuple #[])) w) : E .ret (bodyPost P fn R) n C fs := by
  intro a w hs hc
  exact bodyPost_ret (results_none hr _ _ _) hs.defers (h w hc)
end
end Go.S
