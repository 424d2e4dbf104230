/-
  Results in memory; slices cut, made, laid out; by the models' words.
  Conditions: none.
-/
import Derived.Test.YtdebhhjbgbkbjaaL
namespace Go.S
section
variable {P : Program} {Q : Exit → Act → World → Prop} {n : Nat} {fs : Fr} {C : World → Prop}
/-- What a result variable holds. -/
def Rv (P : Program) (fs : Fr) (C : World → Prop) : ResultVar → Value → Prop
  | .tmp t, v => look fs t = some v
  | .cell x t, v => ∃ ad, look fs x = some (.pointer (some ad)) ∧ ∀ w, C w → (loadVar t ad).run P w = .ok v w
def resV (tmps : Array Value) : ResultVar → Sem Value
  | .tmp t => pure (tmps.getD t undef)
  | .cell x t => do loadVar t (← asAddr (tmps.getD x undef))
theorem results_eq (fn : Func) (tmps : Array Value) : results fn tmps = (do
    let vs ← fn.results.mapM (resV tmps)
    pure (if h : vs.size = 1 then vs[0] else .tuple vs)) := by
  unfold results
  congr 2
theorem Rv.run {rv : ResultVar} {v : Value} (h : Rv P fs C rv v) {a : Act} {w : World} (hs : Slots n fs a) (hw : C w) :
    (resV a.tmps rv).run P w = .ok v w := by
  cases rv with
  | tmp t =>
    have := hs.here t v h
    simp [resV, Array.getD_eq_getD_getElem?, this]
  | cell x t =>
    obtain ⟨ad, h1, h2⟩ := h
    have := hs.here x _ h1
    simp [resV, Array.getD_eq_getD_getElem?, this, asAddr, h2 w hw]
theorem E.retR1 {fn : Func} {R : Ending → World → Prop} {x : ResultVar} {v : Value} (hr : fn.results = #[x]) (h1 : Rv P fs C x v) (h : ∀ w, C w → R (.returned v) w) : E .ret (bodyPost P fn R) n C fs := by
  intro a w hs hc
  refine bodyPost_ret (v := v) ?_ hs.defers (h w hc)
  have e1 := h1.run hs hc
  rw [results_eq, hr]
  simp [e1]
variable {w0 : World} {own : List Nat} {m : List As}
theorem Rv.cell1 {x : Tmp} {t : TypeId} {b i : Nat} {v : Value} {e : TypeId} (ha : aggB P t false = true) (hx : look fs x = some (pt b 0)) (hm : m[i]? = some (.obj b [v] e)) : Rv P fs (Cls w0 own m) (.cell x t) v :=
  ⟨_, hx, fun _ hw => run_loadVar1 ha (hw.cell hm rfl)⟩
end

/-! ### Ways that meet again within a region -/
section
variable {P : Program} {Q : Exit → Act → World → Prop} {n : Nat} {fs : Fr} {C : World → Prop} {ops : Array Oper} {l : List Oper}
theorem wpList_cut {K : Exit → Act → World → Prop} : ∀ {l : List Oper} {j : Nat} {a : Act} {w : World}, wpList P ops K (l.take j) a w → (∀ a w, K .normal a w → wpList P ops Q (l.drop j) a w) → (∀ e a w, e ≠ .normal → K e a w → Q e a w) → wpList P ops Q l a w
  | [], j, a, w, h, h2, _ => by
    simp only [List.take_nil, wpList] at h
    have := h2 _ _ h
    simpa [wpList] using this
  | o :: l, 0, a, w, h, h2, _ => by
    simp only [List.take_zero, wpList] at h
    simpa using h2 _ _ h
  | o :: l, j + 1, a, w, h, h2, h3 => by
    simp only [List.take_succ_cons, List.drop_succ_cons] at h h2
    have ih : ∀ a w, wpList P ops K (l.take j) a w → wpList P ops Q l a w := fun a w h => wpList_cut h h2 h3
    have hout : LetsOut K → LetsOut Q := fun ⟨a, w, h⟩ => ⟨a, w, h3 _ _ _ (by nofun) h⟩
    simp only [wpList] at h ⊢
    by_cases hw : Region.wanted o (yielded ops a.tmps) = true
    · simp only [hw, if_true] at h ⊢
      rcases h with h | ⟨hq, h⟩
      · refine .inl ?_
        unfold Oper.wp at *
        generalize (execOp a.eval o).run P w = r at *
        cases r with
        | ok x w' =>
          cases x <;> simp only [Oper.upon] at h ⊢
          case value u => exact ih _ _ h
          case skip => exact ih _ _ h
          case defer d => exact ih _ _ h
          case enter f args =>
            refine Calls.mono h fun e w'' he => ?_
            cases e with
            | returned u => exact ih _ _ he
            | panicked c => exact h3 _ _ _ (by nofun) he
            | outgrown => exact hout he
          case row row args => exact Rows.mono h fun u w'' he => ih _ _ he
        | halt x w' =>
          cases x <;> simp only [Oper.upon] at h ⊢
          case panic u => exact h3 _ _ _ (by nofun) h
      · exact .inr ⟨hq, hout h⟩
    · simp only [hw, Bool.false_eq_true, if_false] at h ⊢
      exact ih _ _ h
theorem L.cutJ (j : Nat) (J : Fr → (World → Prop) → Prop) (h1 : L P ops (KS Q n J) n C (l.take j) fs) (h2 : ∀ gs D, J gs D → L P ops Q n D (l.drop j) gs) : L P ops Q n C l fs := fun a w hs hc =>
  wpList_cut (h1 a w hs hc) (fun a w ⟨gs, D, hj, hs', hd⟩ => h2 gs D hj a w hs' hd) fun e a w he h => by
    cases e with
    | normal => exact absurd rfl he
    | _ => exact h
theorem wpQuiet_cut {S : World → Prop} {K K' : Act → Prop} : ∀ {l : List Oper} {j : Nat} {a : Act}, wpQuiet P ops S K' (l.take j) a → (∀ a, K' a → wpQuiet P ops S K (l.drop j) a) → wpQuiet P ops S K l a
  | [], j, a, h, h2 => by simpa using h2 _ (by simpa [wpQuiet] using h)
  | o :: l, 0, a, h, h2 => by simpa using h2 _ (by simpa [wpQuiet] using h)
  | o :: l, j + 1, a, h, h2 => by
    simp only [List.take_succ_cons, List.drop_succ_cons] at h h2
    simp only [wpQuiet] at h ⊢
    by_cases hw : Region.wanted o (yielded ops a.tmps) = true
    · simp only [hw, if_true] at h ⊢
      obtain ⟨v, hv, h⟩ := h
      exact ⟨v, hv, wpQuiet_cut h h2⟩
    · simp only [hw, Bool.false_eq_true, if_false] at h ⊢
      exact wpQuiet_cut h h2
def KU (n : Nat) (J : Fr → Prop) : Exit → Act → World → Prop := fun _ a _ => ∃ gs, J gs ∧ Slots n gs a
theorem U.cutJ (hC : ∃ w, C w) (j : Nat) (J : Fr → Prop) (h1 : U P ops (KU n J) n C (l.take j) fs) (h2 : ∀ gs, J gs → U P ops Q n C (l.drop j) gs) : U P ops Q n C l fs := fun a hs =>
  wpQuiet_cut (h1 a hs) fun a' h => by
    obtain ⟨w, hw⟩ := hC
    obtain ⟨gs, hj, hs'⟩ := h w hw
    exact h2 gs hj a' hs'
theorem W.quietC {id : Nat} (hm : P.follows .mixedOrders = true) (hB : Region.lexB .any l.toArray = true) (hdrew : ∀ w, C w → C { w with drawn := w.drawn + 1 }) (h : (∃ w, C w) → U P l.toArray Q n C l fs) : W P Q n C (.region id l.toArray true) fs :=
  fun a w hs hc => W.quiet hm hB hdrew (h ⟨w, hc⟩) a w hs hc
end

theorem Y.buildC {P : Program} {n : Nat} {fs : Fr} {t : TypeId} {C : World → Prop} {tb : TypeId} {ps : List (Nat × Operand)} {vs : List (Nat × Value)} {cells : Array Value} (hx : pvals fs ps = some vs) (hb : ∀ w, C w → P.built tb vs = some cells) : Y P (.build tb ps.toArray) t n fs C (.agg cells) :=
  fun d pos af g a w hs hw => Y.build (C := C) hx (hb w hw) d pos af g a w hs hw

/-! ### Slices cut -/
section
variable {P : Program} {Q : Exit → Act → World → Prop} {n : Nat} {fs : Fr} {C : World → Prop} {t : TypeId} {ops : Array Oper} {rest : List Oper} {d : Nat} {pos : String} {af : Array Edge}
variable {w0 : World} {own : List Nat} {m : List As} {α ρ : Type} {r : ρ} {g : α → List Value} {l z : List α} {lo hi : Int} {x y y2 : Operand} {e tx : TypeId} {k by' : Nat} {v : Value} {ik ik2 : IntKind}
theorem At.cutM {w : World} (hA : At w v k (l.map g)) (h : cut l 0 hi = some z) : At w (cutv v hi.toNat) k (z.map g) := by
  obtain ⟨_, h1, h2, rfl⟩ := cut_some h
  have := hA.take hi.toNat (by rw [List.length_map]; omega)
  rw [← List.map_take] at this
  exact this
theorem At.dropM {w : World} (hA : At w v k (l.map g)) (h : cut l lo l.length = some z) : At w (dropv v lo.toNat k) k (z.map g) := by
  obtain ⟨h0, h1, _, rfl⟩ := cut_some h
  have := hA.drop lo.toNat (by rw [List.length_map]; omega)
  rw [← List.map_drop] at this
  rwa [Int.toNat_natCast, List.take_length]
theorem Y.cutM (hu : P.underlying tx = some (.slice e)) (hs : szB P e k = true) (hx : val fs x = some v) (hy : val fs y = some (.int ik hi)) (hA : ∀ w, C w → At w v k (l.map g)) (u : List α) (h : cut l 0 hi = some u) :
    Y P (.slice tx x none (some y) none) t n fs C (cutv v hi.toNat) := by
  obtain ⟨_, h1, h2, _⟩ := cut_some h
  exact Y.cutA hu hs hx hy hA h1 (by rwa [List.length_map])
theorem Y.dropM (hu : P.underlying tx = some (.slice e)) (hs : szB P e k = true) (hx : val fs x = some v) (hy : val fs y = some (.int ik lo)) (hA : ∀ w, C w → At w v k (l.map g)) (u : List α) (h : cut l lo l.length = some u) :
    Y P (.slice tx x (some y) none none) t n fs C (dropv v lo.toNat k) := by
  obtain ⟨h0, h1, _, _⟩ := cut_some h
  exact Y.dropA hu hs hx hy hA h0 (by rwa [List.length_map])
theorem L.cutM {i : Nat} (h : Go.S.cut l 0 hi = some z) (hd : Nat.blt d n = true) (hu : P.underlying tx = some (.slice e)) (he : szB P e k = true) (hx : val fs x = some v) (hy : val fs y = some (.int ik hi)) (hm : m[i]? = some (.sl v e k (l.map g)))
    (next : ∀ v', L P ops Q n (Cls w0 own (m.set i (.sl v' e k (z.map g)))) rest ((d, v') :: fs)) : L P ops Q n (Cls w0 own m) (⟨some d, .slice tx x none (some y) none, t, pos, af, none⟩ :: rest) fs := by
  obtain ⟨_, h1, h2, rfl⟩ := cut_some h
  refine L.cut hd hu he hx hy hm h1 (by rwa [List.length_map]) fun v' => ?_
  rw [← List.map_take]
  exact next v'
/-- A literal of no elements. -/
theorem L.lit0 (hd : Nat.blt d n = true) (hu : P.underlying tx = some (.slice e)) (he : elemB P e k by' = true) (next : ∀ b, L P ops Q n (Cls w0 own (.sl (sv b 0) e k [] :: m)) rest ((d, sv b 0) :: fs)) :
    L P ops Q n (Cls w0 own m) (⟨some d, .buildSlice tx 0 #[], t, pos, af, none⟩ :: rest) fs :=
  L.fresh (val' := fun b => sv b 0) hd (fun a w hs hw => by
    obtain ⟨z, hzs, hk0, h1, h2, _⟩ := elemB_run he
    refine ⟨w.heap.size, _, ?_, hw.allocSl e k [] (by simp) (by simp) (by simp [maxLen])⟩
    simp only [execOp]
    simp [Instr.buildSlice, run_underlying hu, h1, Instr.fill, newRow, sv, show Array.range 0 = #[] from rfl]) next
end
end Go.S
