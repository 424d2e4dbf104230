/-
  Calls that are handed a pointer: what it leads to is lent, and given back.
  Conditions: none.
-/
import Derived.Test.YtdebhhjbgbkbjaaFz
namespace Go.S
set_option linter.unusedVariables false
set_option linter.unusedSimpArgs false
def bind4 {α0 α1 α2 α3 ρ : Type} (o : Option (α0 × α1 × α2 × α3)) (f : α0 → α1 → α2 → α3 → Option ρ) : Option ρ := match o with
  | some (x0, x1, x2, x3) => f x0 x1 x2 x3
  | none => none
@[simp] theorem bind4_some {α0 α1 α2 α3 ρ : Type} (x0 : α0) (x1 : α1) (x2 : α2) (x3 : α3) (f : α0 → α1 → α2 → α3 → Option ρ) : bind4 (some (x0, x1, x2, x3)) f = f x0 x1 x2 x3 := rfl
def bind5 {α0 α1 α2 α3 α4 ρ : Type} (o : Option (α0 × α1 × α2 × α3 × α4)) (f : α0 → α1 → α2 → α3 → α4 → Option ρ) : Option ρ := match o with
  | some (x0, x1, x2, x3, x4) => f x0 x1 x2 x3 x4
  | none => none
@[simp] theorem bind5_some {α0 α1 α2 α3 α4 ρ : Type} (x0 : α0) (x1 : α1) (x2 : α2) (x3 : α3) (x4 : α4) (f : α0 → α1 → α2 → α3 → α4 → Option ρ) : bind5 (some (x0, x1, x2, x3, x4)) f = f x0 x1 x2 x3 x4 := rfl
def bind6 {α0 α1 α2 α3 α4 α5 ρ : Type} (o : Option (α0 × α1 × α2 × α3 × α4 × α5)) (f : α0 → α1 → α2 → α3 → α4 → α5 → Option ρ) : Option ρ := match o with
  | some (x0, x1, x2, x3, x4, x5) => f x0 x1 x2 x3 x4 x5
  | none => none
@[simp] theorem bind6_some {α0 α1 α2 α3 α4 α5 ρ : Type} (x0 : α0) (x1 : α1) (x2 : α2) (x3 : α3) (x4 : α4) (x5 : α5) (f : α0 → α1 → α2 → α3 → α4 → α5 → Option ρ) : bind6 (some (x0, x1, x2, x3, x4, x5)) f = f x0 x1 x2 x3 x4 x5 := rfl
def bind7 {α0 α1 α2 α3 α4 α5 α6 ρ : Type} (o : Option (α0 × α1 × α2 × α3 × α4 × α5 × α6)) (f : α0 → α1 → α2 → α3 → α4 → α5 → α6 → Option ρ) : Option ρ := match o with
  | some (x0, x1, x2, x3, x4, x5, x6) => f x0 x1 x2 x3 x4 x5 x6
  | none => none
@[simp] theorem bind7_some {α0 α1 α2 α3 α4 α5 α6 ρ : Type} (x0 : α0) (x1 : α1) (x2 : α2) (x3 : α3) (x4 : α4) (x5 : α5) (x6 : α6) (f : α0 → α1 → α2 → α3 → α4 → α5 → α6 → Option ρ) : bind7 (some (x0, x1, x2, x3, x4, x5, x6)) f = f x0 x1 x2 x3 x4 x5 x6 := rfl
def bind8 {α0 α1 α2 α3 α4 α5 α6 α7 ρ : Type} (o : Option (α0 × α1 × α2 × α3 × α4 × α5 × α6 × α7)) (f : α0 → α1 → α2 → α3 → α4 → α5 → α6 → α7 → Option ρ) : Option ρ := match o with
  | some (x0, x1, x2, x3, x4, x5, x6, x7) => f x0 x1 x2 x3 x4 x5 x6 x7
  | none => none
@[simp] theorem bind8_some {α0 α1 α2 α3 α4 α5 α6 α7 ρ : Type} (x0 : α0) (x1 : α1) (x2 : α2) (x3 : α3) (x4 : α4) (x5 : α5) (x6 : α6) (x7 : α7) (f : α0 → α1 → α2 → α3 → α4 → α5 → α6 → α7 → Option ρ) : bind8 (some (x0, x1, x2, x3, x4, x5, x6, x7)) f = f x0 x1 x2 x3 x4 x5 x6 x7 := rfl
/-- What one knows is of blocks that are there, but for these. -/
def StbF (K : World → Prop) (w : World) (F : List Nat) : Prop := ∀ w', w'.os = w.os → w'.tape = w.tape → w'.output = w.output → w.heap.size ≤ w'.heap.size → (∀ k, k < w.heap.size → k ∉ F → w'.heap[k]? = w.heap[k]?) → K w'
section
variable {K : World → Prop} {c c' : List Ob} {v u : Value} {k : Nat} {rows : List (List Value)} {w0 w w' : World} {own : List Nat} {m m' A A' M : List As} {e : TypeId} {i j s : Nat}
theorem Cls.lent_no (hw : Cls w0 own (A ++ M) w) {q : Nat} (hq : q < w0.heap.size) (ho : q ∉ own) : q ∉ A.flatMap As.foot := by
  intro h
  obtain ⟨x, hx, hb⟩ := List.mem_flatMap.1 h
  rcases (hw.mine x (List.mem_append_left _ hx)).2 q hb with h1 | h1
  · omega
  · exact ho h1
theorem StbF.lend (hK : StbF K w0 own) (hw : Cls w0 own (A ++ M) w) : StbF K w (A.flatMap As.foot) := fun w' h1 h2 h3 h4 h5 =>
  hK w' (h1.trans hw.os) (h2.trans hw.tape) (h3.trans hw.output) (Nat.le_trans hw.size h4) fun q hq ho => by
    rw [h5 q (Nat.lt_of_lt_of_le hq hw.size) (hw.lent_no hq ho), hw.old q hq ho]
theorem Cls.lend (hw : Cls w0 own (A ++ M) w) : Cls w (A.flatMap As.foot) A w := by
  have hn := hw.nodup
  rw [List.flatMap_append, List.nodup_append] at hn
  exact ⟨rfl, rfl, rfl, DR.refl _, Nat.le_refl _, fun _ _ _ => rfl, hn.1, fun x hx => ⟨(hw.mine x (List.mem_append_left _ hx)).1, fun b hb => .inr (List.mem_flatMap.2 ⟨x, hx, hb⟩)⟩⟩
theorem Cls.back (hw : Cls w0 own (A ++ M) w) (h : Cls w (A.flatMap As.foot) A' w') : Cls w0 own (A' ++ M) w' := by
  have hn := hw.nodup
  rw [List.flatMap_append, List.nodup_append] at hn
  have hM : ∀ b ∈ M.flatMap As.foot, b < w.heap.size ∧ b ∉ A.flatMap As.foot := fun b hb =>
    ⟨hw.foot_lt b (by rw [List.flatMap_append]; exact List.mem_append_right _ hb), fun ha => hn.2.2 b ha b hb rfl⟩
  refine ⟨h.os.trans hw.os, h.tape.trans hw.tape, h.output.trans hw.output, DR.trans hw.dr h.dr, Nat.le_trans hw.size h.size, fun q hq ho => ?_, ?_, fun x hx => ?_⟩
  · rw [h.old q (Nat.lt_of_lt_of_le hq hw.size) (hw.lent_no hq ho), hw.old q hq ho]
  · rw [List.flatMap_append, List.nodup_append]
    refine ⟨h.nodup, hn.2.1, fun a ha b hb hab => ?_⟩
    subst hab
    obtain ⟨h1, h2⟩ := hM a hb
    obtain ⟨x, hx, hax⟩ := List.mem_flatMap.1 ha
    rcases (h.mine x hx).2 a hax with h3 | h3
    · omega
    · exact h2 h3
  · rcases List.mem_append.1 hx with hx | hx
    · refine ⟨(h.mine x hx).1, fun b hb => ?_⟩
      rcases (h.mine x hx).2 b hb with h3 | h3
      · exact .inl (Nat.le_trans hw.size h3)
      · obtain ⟨y, hy, hby⟩ := List.mem_flatMap.1 h3
        exact (hw.mine y (List.mem_append_left _ hy)).2 b hby
    · have hxm := hw.mine x (List.mem_append_right _ hx)
      refine ⟨As.holds_congr hxm.1 fun b hb => ?_, hxm.2⟩
      obtain ⟨h1, h2⟩ := hM b (List.mem_flatMap.2 ⟨x, hx, hb⟩)
      exact h.old b h1 h2
end
/-- What a call does that is lent some blocks. -/
def DoesF (P : Program) (f : FuncId) (vs : List Value) (F : List Nat) (w : World) (R : Value → List As → Prop) : Prop := Calls P f vs.toArray w fun e w' => ∃ v m, e = .returned v ∧ R v m ∧ Cls w F m w'
section
variable {K : World → Prop} {c c' : List Ob} {P : Program} {Q : Exit → Act → World → Prop} {n : Nat} {fs : Fr} {t : TypeId} {ops : Array Oper} {rest : List Oper} {d : Nat} {pos : String} {af : Array Edge}
variable {w0 w : World} {own : List Nat} {m A M : List As} {x y z : Operand} {e te tx ty : TypeId} {i j k kk by' p q s b : Nat} {v u : Value} {rows : List (List Value)}
theorem L.doesP {f : FuncId} {xs : List Operand} {ts : Array TypeId} {vs : List Value} {R : Value → List As → Prop} (hd : Nat.blt d n = true) (he : entB P f = true) (hx : vals fs xs = some vs)
    (hc : ∀ w, Cls w0 own (A ++ M) w → DoesF P f vs (A.flatMap As.foot) w R) (next : ∀ v m', R v m' → L P ops Q n (Cls w0 own (m' ++ M)) rest ((d, v) :: fs)) : L P ops Q n (Cls w0 own (A ++ M)) (⟨some d, .call ⟨.value (.func f), xs.toArray, ts⟩, t, pos, af, none⟩ :: rest) fs := by
  refine L.call (R := fun v w' => ∃ m', R v m' ∧ Cls w0 own (m' ++ M) w') hd he hx (fun w hw => Calls.mono (hc w hw) ?_) fun v => L.ex fun m' => ?_
  · rintro e w' ⟨v, m', rfl, hv, hcl⟩
    exact ⟨v, rfl, m', hv, hw.back hcl⟩
  · rintro a w hs ⟨hr, hcl⟩
    exact next v m' hr a w hs hcl
variable {α ρ : Type} {r : ρ} {row : α → List Value → List Value} {sds : α → List Value → List Sd} {vs vs2 : Nat → List Value} {l l2 : List α} {a : Int} {u0 u1 : α} {f : List α → Option ρ}
end
end Go.S
