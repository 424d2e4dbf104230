/-
  A range over a function, in a function of classes: rounds walked by G; what is behind walked by G; contracts without draws.
  Conditions: none.
-/
import Derived.Test.YtdebhhjbgbkbjaaRg
namespace Go.S
open Go.RowKit
set_option linter.unusedVariables false
set_option linter.unusedSimpArgs false

/-! ### Draws left aside -/
section
variable {P : Program} {w0 w w' w1 : World} {own own1 : List Nat} {m m' : List As}
def Does0 (P : Program) (f : FuncId) (vs : List Value) (w : World) (R : Value → List As → Prop) : Prop := ∀ d, Calls P f vs.toArray { w with drawn := d } fun e w' => ∃ v m, e = .returned v ∧ R v m ∧ Cls w [] m w'
theorem Cls.drawn0 (h : Cls w0 own m w) (hz : w0.drawn = 0) (d : Nat) : Cls w0 own m { w with drawn := d } :=
  ⟨h.os, h.tape, h.output, DR.of (by show w0.drawn ≤ d; omega), h.size, h.old, h.nodup, fun x hx => ⟨As.holds_congr (h.mine x hx).1 (fun b _ => rfl), (h.mine x hx).2⟩⟩

/-! ### A world told from a later one on -/
def cellK : As → Bool
  | .obj .. => true
  | .sl .. => true
  | .ss .. => true
  | _ => false
theorem slHolds_cells {w : World} {v : Value} {e : TypeId} {k : Nat} {rows : List (List Value)} (h : slHolds w v e k rows) : ∀ b ∈ v.ownBlock.toList, ∃ o, w.heap[b]? = some o ∧ o.isCells = true := by
  obtain ⟨_, _, h3⟩ := h
  intro b hb
  rcases h3 with ⟨rfl, _⟩ | ⟨g, cap, cur, rfl, hg, hh, r⟩
  · simp [Value.ownBlock] at hb
  · simp only [Value.ownBlock, Option.toList_some, List.mem_singleton] at hb
    subst hb
    exact ⟨_, hh, rfl⟩
theorem As.cells_foot {x : As} {w : World} (h : x.holds w) (hk : cellK x = true) : ∀ b ∈ x.foot, ∃ o, w.heap[b]? = some o ∧ o.isCells = true := by
  intro b hb
  cases x with
  | obj b' c e =>
    simp only [As.foot, List.mem_singleton] at hb
    subst hb
    exact ⟨_, h, rfl⟩
  | sl v e k rows => exact slHolds_cells h b hb
  | ss l =>
    obtain ⟨d, hd, hbd⟩ := List.mem_flatMap.1 hb
    exact slHolds_cells (h d hd) b hbd
  | _ => cases hk
theorem Cls.restart (h : Cls w0 own m w) : Cls w (m.flatMap As.foot) m w :=
  ⟨rfl, rfl, rfl, DR.refl _, Nat.le_refl _, fun _ _ _ => rfl, h.nodup, fun x hx => ⟨(h.mine x hx).1, fun b hb => .inr (List.mem_flatMap.2 ⟨x, hx, hb⟩)⟩⟩
/-- Two ways, one behind the other. -/
theorem Cls.chain (h : Cls w0 [] m w) (h2 : Cls w own1 m' w1) (ho : ∀ b ∈ own1, b ∈ m.flatMap As.foot ∨ w0.heap.size ≤ b) : Cls w0 [] m' w1 := by
  have hb : ∀ b ∈ own1, w0.heap.size ≤ b := by
    intro b hb
    rcases ho b hb with h3 | h3
    · obtain ⟨x, hx, hbx⟩ := List.mem_flatMap.1 h3
      rcases (h.mine x hx).2 b hbx with h4 | h4
      · exact h4
      · cases h4
    · exact h3
  refine ⟨h2.os.trans h.os, h2.tape.trans h.tape, h2.output.trans h.output, DR.trans h.dr h2.dr, Nat.le_trans h.size h2.size, fun k hk _ => ?_, h2.nodup, fun x hx => ⟨(h2.mine x hx).1, fun b hbx => .inl ?_⟩⟩
  · rw [h2.old k (Nat.lt_of_lt_of_le hk h.size) (fun hm => by have := hb k hm; omega)]
    exact h.old k hk (by simp)
  · rcases (h2.mine x hx).2 b hbx with h3 | h3
    · exact Nat.le_trans h.size h3
    · exact hb b h3
end

/-! ### Functions -/
section
variable {P : Program} {n : Nat} {w : World} {fn : Func} {R : Value → List As → Prop}
abbrev R0 (w : World) (own : List Nat) (R : Value → List As → Prop) : Ending → World → Prop := fun e w' => ∃ v m, e = .returned v ∧ R v m ∧ Cls w own m w'
def PM (P : Program) (fn : Func) (R : Ending → World → Prop) : Exit → Act → World → Prop := bodyPostM Fence.wide 9 P fn R
theorem bodyM {f : FuncId} {c : Code} {vs : List Value} (hf : P.funcs[f]? = some fn) (hb : fn.body = some c) (hn : fn.ntmps = n) (hl : Nat.ble vs.length n = true) (hz : w.drawn = 0) (h : W P (PM P fn (R0 w [] R)) n (Cls w [] []) c (args 0 vs)) : Does0 P f vs w R := by
  intro d
  have hl' : vs.length ≤ n := by simpa using hl
  refine callsIn_wide.1 (callsIn_of_wp_marks (n := 9) hf hb trivial ?_)
  subst hn
  refine wpIn_wide.2 (h _ _ (Slots.enter vs _ _ (fun t v hv => ?_) hl') ((Cls.refl w).drawn0 hz d))
  obtain ⟨_, h2⟩ := look_args vs 0 t v hv
  simp only [Nat.sub_zero] at h2
  have : t < vs.length := (List.getElem?_eq_some_iff.1 h2).1
  rw [List.getElem?_append_left this]
  exact h2
theorem E.toM {RR : Ending → World → Prop} {C : World → Prop} {fs : Fr} (h : E .ret (bodyPost P fn RR) n C fs) : E .ret (PM P fn RR) n C fs := by
  intro a w hs hc
  obtain ⟨h1, v, h2, h3⟩ := h a w hs hc
  show LeavesInM Fence.wide 9 P fn a.tmps RR a.defers .returning w
  rw [h1]
  exact ⟨v, h2, h3⟩
theorem At.z {w : World} {v : Value} {k : Nat} {rows : List (List Value)} (h : At w v k rows) (d : Nat) : At { w with drawn := d } v k rows := ⟨h.shape, h.len, h.cell⟩
end

/-! ### More of G -/
section
variable {P : Program} {F : Fence} {N : Nat} {ds : List Deferred} {Q : Exit → Act → World → Prop} {n : Nat} {C D : World → Prop} {fs : Fr} {w0 : World} {own : List Nat} {m : List As}
theorem G.loopJ {c : Code} (J : Nat → Fr → (World → Prop) → Prop) {m0 : Nat} {gs : Fr} {D : World → Prop} (h0 : J m0 gs D) (hF : Sub gs fs) (hD : ∀ w, C w → D w)
    (round : ∀ m gs D, J m gs D → G F N ds P (KL Q n J m) n D c gs) : G F N ds P Q n C (.loop c) fs :=
  G.loop (X := Nat × Fr × (World → Prop)) (fun p => p.2.1) (fun p => p.2.2) (fun p => J p.1 p.2.1 p.2.2) (fun p => p.1) (m0, gs, D) h0 hF hD fun p hp hq a w hs hc =>
    wpIn_mono (round p.1 p.2.1 p.2.2 hp hq a w hs hc) (fun e a w h => by
      obtain ⟨a0, h0, rfl, h⟩ := h
      refine ⟨a0, h0, rfl, ?_⟩
      cases e with
      | normal => obtain ⟨m', gs', D', h1, h2, h3, h4⟩ := h; exact ⟨(m', gs', D'), h1, h2, h3, h4⟩
      | _ => exact h)
theorem G.seqJ {x y : Code} (J : Fr → (World → Prop) → Prop) (h1 : G F N ds P (KS Q n J) n C x fs) (h2 : ∀ gs D, J gs D → G F N ds P Q n D y gs) : G F N ds P Q n C (.seq x y) fs :=
  G.seq fun hq a w hs hc => wpIn_mono (h1 (noOut_then (fun hl => hq hl)) a w hs hc) (fun e a w h => by
      obtain ⟨a0, h0, rfl, h⟩ := h
      refine ⟨a0, h0, rfl, ?_⟩
      cases e with
      | normal => obtain ⟨gs', D', h3, h4, h5⟩ := h; exact fun hq' => h2 gs' D' h3 hq' a0 w h4 h5
      | _ => exact h)
theorem G.to {c : Code} (hd : ∀ w, C w → D w) (h : G F N ds P Q n D c fs) : G F N ds P Q n C c fs := fun hq a w hs hc => h hq a w hs (hd w hc)
theorem G.nilSl {c : Code} (e : TypeId) (k : Nat) (h : G F N ds P Q n (Cls w0 own (.sl (.slice none 0 0) e k [] :: m)) c fs) : G F N ds P Q n (Cls w0 own m) c fs := G.to (fun _ hw => hw.nilSl e k) h
theorem G.caseB {ρ : Type} {A B : Option ρ} {r : ρ} {b : Bool} {q : Nat} {c : Code} (h : (if b = true then A else B) = some r) (hv : look fs q = some (.bool b)) (k1 : A = some r → G F N ds P Q n C c ((q, .bool true) :: fs)) (k2 : B = some r → G F N ds P Q n C c ((q, .bool false) :: fs)) : G F N ds P Q n C c fs := by
  have hsub : ∀ (b' : Bool), b' = b → ∀ a, Slots n fs a → Slots n ((q, .bool b') :: fs) a := by
    rintro b' rfl a hs
    refine ⟨hs.defers, hs.size, fun t v ht => ?_⟩
    simp only [look] at ht
    cases hb : Nat.beq q t with
    | true =>
      have : q = t := Nat.eq_of_beq_eq_true hb
      simp only [hb, Option.some.injEq] at ht
      subst this; subst ht
      exact hs.here _ _ hv
    | false => simp only [hb] at ht; exact hs.here t v ht
  cases b with
  | true => exact fun hq a w hs hc => k1 (iteT h) hq a w (hsub true rfl a hs) hc
  | false => exact fun hq a w hs hc => k2 (iteF h) hq a w (hsub false rfl a hs) hc
end

/-! ### Operations ahead of a call of yield -/
section
variable {P : Program} {F : Fence} {N : Nat} {ds : List Deferred} {ops : Array Oper}
def KN (K : Act → World → Prop) : Exit → Act → World → Prop := fun e a w => match e with
  | .normal => K a w
  | _ => False
theorem noOut_KN {K : Act → World → Prop} : NoOut (KN K) := fun ⟨_, _, h⟩ => h
end
end Go.S
