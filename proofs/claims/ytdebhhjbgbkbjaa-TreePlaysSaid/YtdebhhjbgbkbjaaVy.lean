/-
  A region that draws its order, and in which yield is called: what is ahead of the call only reads.
  Conditions: none.
-/
import Derived.Test.YtdebhhjbgbkbjaaRk
import Derived.Test.YtdebhhjbgbkbjaaAr
namespace Go.S
open Go.RowKit
set_option linter.unusedVariables false
set_option linter.unusedSimpArgs false
section
variable {P : Program} {md : Region.Mode} {ops : Array Oper} {Q : Exit → Act → World → Prop} {y : Nat} {EY : (Act → World → Prop) → Act → World → Prop} {C : World → Prop}
/-- The orders of a region whose operation y is told by EY. -/
def wpY (P : Program) (md : Region.Mode) (ops : Array Oper) (Q : Exit → Act → World → Prop) (y : Nat) (EY : (Act → World → Prop) → Act → World → Prop) (C : World → Prop) : Nat → Array Bool → Act → World → Prop
  | 0, listed, a, w => Region.ready md ops listed = [] ∧ Q .normal a w
  | fuel + 1, listed, a, w => (Region.ready md ops listed = [] → Q .normal a w) ∧
    ∀ i ∈ Region.ready md ops listed, if i = y then EY (wpAny P md ops Q fuel (listed.setIfInBounds i true)) a w else wpOp P ops Q i (fun a' w' => C w' ∧ wpY P md ops Q y EY C fuel (listed.setIfInBounds i true) a' w') a w
def edgeB (ops : Array Oper) (md : Region.Mode) (j i : Nat) : Prop := ∃ o, ops[j]? = some o ∧ ∃ e ∈ o.after, Region.binds md e = true ∧ e.on = i
/-- This one cannot come up ahead of i. -/
inductive Blk (ops : Array Oper) (md : Region.Mode) (i : Nat) (listed : Array Bool) : Nat → Prop where
  | base {j : Nat} : j ≠ i → edgeB ops md j i → Blk ops md i listed j
  | step {j k : Nat} : j ≠ i → edgeB ops md j k → listed.getD k true = false → Blk ops md i listed k → Blk ops md i listed j
theorem getD_ft {listed : Array Bool} {k : Nat} (h : listed.getD k true = false) : listed.getD k false = false := by
  rcases Nat.lt_or_ge k listed.size with h' | h'
  · simp [h'] at h ⊢; exact h
  · simp [Array.getElem?_eq_none h']
theorem Blk.no {i j : Nat} {listed : Array Bool} (h : Blk ops md i listed j) (hi : listed.getD i true = false) : j ∉ Region.ready md ops listed := by
  intro hr
  obtain ⟨_, o, ho, hall⟩ := mem_ready.1 hr
  cases h with
  | base _ he =>
    obtain ⟨o', ho', e, hm, hb, rfl⟩ := he
    rw [ho, Option.some.injEq] at ho'
    subst ho'
    have := hall e hm hb
    rw [getD_ft hi] at this
    cases this
  | step _ he hk _ =>
    obtain ⟨o', ho', e, hm, hb, rfl⟩ := he
    rw [ho, Option.some.injEq] at ho'
    subst ho'
    have := hall e hm hb
    rw [getD_ft hk] at this
    cases this
theorem Blk.set {i j q : Nat} {listed : Array Bool} (h : Blk ops md i listed j) (hi : listed.getD i true = false) (hq : q ∈ Region.ready md ops listed) : Blk ops md i (listed.setIfInBounds q true) j := by
  induction h with
  | base h1 h2 => exact .base h1 h2
  | step h1 h2 h3 h4 ih =>
    refine .step h1 h2 ?_ ih
    rw [getD_set_ne true]
    · exact h3
    · rintro rfl; exact h4.no hi hq
def blkB (ops : Array Oper) (md : Region.Mode) (i : Nat) (listed : Array Bool) : Nat → Nat → Bool
  | 0, _ => false
  | f + 1, j => !(Nat.beq j i) && match ops[j]? with
    | some o => o.after.toList.any fun e => Region.binds md e && (Nat.beq e.on i || (!(listed.getD e.on true) && blkB ops md i listed f e.on))
    | none => false
theorem blkB_spec {i : Nat} {listed : Array Bool} : ∀ (f j : Nat), blkB ops md i listed f j = true → Blk ops md i listed j
  | 0, _, h => by cases h
  | f + 1, j, h => by
    rw [blkB, Bool.and_eq_true] at h
    have hji : j ≠ i := Nat.ne_of_beq_eq_false (by simpa using h.1)
    cases ho : ops[j]? with
    | none => rw [ho] at h; exact absurd h.2 (by simp)
    | some o =>
      rw [ho] at h
      obtain ⟨e, he, h2⟩ := List.any_eq_true.1 h.2
      rw [Bool.and_eq_true, Bool.or_eq_true, Bool.and_eq_true] at h2
      rcases h2.2 with h3 | ⟨h3, h4⟩
      · exact .base hji ⟨o, ho, e, by simpa using he, h2.1, Nat.eq_of_beq_eq_true h3⟩
      · exact .step hji ⟨o, ho, e, by simpa using he, h2.1, rfl⟩ (by simpa using h3) (blkB_spec f _ h4)
theorem Y_first {i : Nat} {oi : Oper} {v : Value} (hi : ops[i]? = some oi) (hsel : ∀ (j : Nat) (o : Oper) cs b, ops[j]? = some o → o.op ≠ .select cs b)
    (hQ : ∀ c a w, Q (.panic c) (a.put oi.dst v) w → Q (.panic c) a w) (hiy : i ≠ y) :
    ∀ (fuel : Nat) (listed : Array Bool) (a : Act) (w : World), Blk ops md i listed y →
      (∀ j oj, ops[j]? = some oj → j ≠ i → listed.getD j true = false → (∀ e ∈ oj.after, Region.binds md e = true → e.on ≠ i) → oi.apart ops oj = true) →
      i ∈ Region.ready md ops listed → YieldsIf P ops C oi v a → C w →
      wpY P md ops Q y EY C fuel (listed.setIfInBounds i true) (a.put oi.dst v) w → wpY P md ops Q y EY C (fuel + 1) listed a w := by
  intro fuel
  induction fuel with
  | zero =>
    intro listed a w hblk hfree hr hy hc H
    refine ⟨fun h => (by rw [h] at hr; cases hr), fun j hj => ?_⟩
    by_cases hji : j = i
    · subst hji; rw [if_neg hiy]; exact hy.wpOp hi hc ⟨hc, H⟩
    · have := ready_mono hj hji
      rw [H.1] at this
      cases this
  | succ fuel ih =>
    intro listed a w hblk hfree hr hy hc H
    refine ⟨fun h => (by rw [h] at hr; cases hr), fun j hj => ?_⟩
    by_cases hji : j = i
    · subst hji; rw [if_neg hiy]; exact hy.wpOp hi hc ⟨hc, H⟩
    · have hun := (mem_ready.1 hr).1
      have hjy : j ≠ y := fun h => hblk.no hun (h ▸ hj)
      rw [if_neg hjy]
      have h1 := H.2 j (ready_mono hj hji)
      rw [if_neg hjy] at h1
      obtain ⟨hjun, oj, hoj, hall⟩ := mem_ready.1 hj
      have hnot : ∀ e ∈ oj.after, Region.binds md e = true → e.on ≠ i := fun e he hb heq => by
        have h1 := hall e he hb
        have h0 := (mem_ready.1 hr).1
        rw [heq] at h1
        rcases Nat.lt_or_ge i listed.size with h' | h'
        · simp [h'] at h0 h1; rw [h0] at h1; cases h1
        · simp [Array.getElem?_eq_none h'] at h1
      have h2 := wpOp_putIf hoj (hfree j oj hoj hji hjun hnot) (fun cs b => hsel i oi cs b hi) (fun cs b => hsel j oj cs b hoj) hQ hy h1
      have hfree' : ∀ k ok, ops[k]? = some ok → k ≠ i → (listed.setIfInBounds j true).getD k true = false →
          (∀ e ∈ ok.after, Region.binds md e = true → e.on ≠ i) → oi.apart ops ok = true := fun k ok hk hki hun hno => by
        refine hfree k ok hk hki ?_ hno
        by_cases hjk : j = k
        · subst hjk; exact hjun
        · rw [getD_set_ne true hjk] at hun; exact hun
      refine wpOp_mono (fun a' w' h3 => ?_) h2
      refine ⟨h3.2.1, ih (listed.setIfInBounds j true) a' w' (hblk.set hun hj) hfree' (ready_mono hr (Ne.symm hji)) h3.1 h3.2.1 ?_⟩
      rw [Array.setIfInBounds_comm _ _ hji]
      exact h3.2.2
section
variable {F : Fence} {N : Nat} {ds : List Deferred}
theorem any_in' (hF : Wide F) (hq : NoOut Q) {md : Region.Mode} : ∀ (fuel : Nat) (listed : Array Bool) (a : Act) (w : World), (∀ (i : Nat) (o : Oper), ops[i]? = some o → listed.getD i true = false → noDefP P o.op = true) → a.defers = [] → wpAny P md ops Q fuel listed a w → wpAnyIn F N P md ops (dq ds Q) fuel listed { a with defers := ds } w
  | 0, listed, a, w, _, h0, h => ⟨h.1, dq.mk h.2 h0⟩
  | fuel + 1, listed, a, w, hl, h0, h => by
    refine ⟨fun hr => dq.mk (h.1 hr) h0, fun i hi => ?_⟩
    have h2 := h.2 i hi
    have hun := (mem_ready.1 hi).1
    have ih := any_in' hF hq (md := md) fuel (listed.setIfInBounds i true)
    have hl' : ∀ (j : Nat) (o : Oper), ops[j]? = some o → (listed.setIfInBounds i true).getD j true = false → noDefP P o.op = true := fun j o ho hu => by
      by_cases hji : i = j
      · subst hji; exact hl _ o ho hun
      · rw [getD_set_ne true hji] at hu; exact hl j o ho hu
    unfold wpOp at h2
    unfold wpOpIn
    cases ho : ops[i]? with
    | none => simp only [ho] at h2 ⊢; exact ih a w hl' h0 h2
    | some o =>
      simp only [ho] at h2 ⊢
      by_cases hw : Region.wanted o (yielded ops a.tmps) = true
      · simp only [hw, if_true] at h2 ⊢
        rcases h2 with h2 | ⟨_, h2⟩
        · exact op_in hF hq (hl i o ho hun) (fun a w h0 hk => ih a w hl' h0 hk) h0 h2
        · exact (hq h2).elim
      · simp only [hw, Bool.false_eq_true, if_false] at h2 ⊢
        exact ⟨fun f _ => hF.fn f, by rw [put_ds]; exact ih _ _ hl' (by rw [put_defers]; exact h0) h2⟩
theorem any_inY (hF : Wide F) (hq : NoOut Q) {md : Region.Mode} (hE : ∀ (K K' : Act → World → Prop) a w, a.defers = [] → (∀ a w, a.defers = [] → K a w → K' { a with defers := ds } w) → EY K a w → wpOpIn F N P ops (dq ds Q) y K' { a with defers := ds } w) :
    ∀ (fuel : Nat) (listed : Array Bool) (a : Act) (w : World), (∀ (i : Nat) (o : Oper), i ≠ y → ops[i]? = some o → listed.getD i true = false → noDefP P o.op = true) → y < listed.size → a.defers = [] → wpY P md ops Q y EY C fuel listed a w → wpAnyIn F N P md ops (dq ds Q) fuel listed { a with defers := ds } w
  | 0, listed, a, w, _, _, h0, h => ⟨h.1, dq.mk h.2 h0⟩
  | fuel + 1, listed, a, w, hl, hys, h0, h => by
    refine ⟨fun hr => dq.mk (h.1 hr) h0, fun i hi => ?_⟩
    have h2 := h.2 i hi
    have hun := (mem_ready.1 hi).1
    by_cases hiy : i = y
    · subst hiy
      rw [if_pos rfl] at h2
      refine hE _ _ a w h0 (fun a w h0 hk => any_in' hF hq fuel _ a w (fun j o ho hu => ?_) h0 hk) h2
      by_cases hji : i = j
      · subst hji
        simp [Array.getD, hys] at hu
      · rw [getD_set_ne true hji] at hu; exact hl j o (Ne.symm hji) ho hu
    · rw [if_neg hiy] at h2
      have ih := any_inY hF hq (md := md) hE fuel (listed.setIfInBounds i true)
      have hl' : ∀ (j : Nat) (o : Oper), j ≠ y → ops[j]? = some o → (listed.setIfInBounds i true).getD j true = false → noDefP P o.op = true := fun j o hj ho hu => by
        by_cases hji : i = j
        · subst hji; exact hl _ o hj ho hun
        · rw [getD_set_ne true hji] at hu; exact hl j o hj ho hu
      have hys' : y < (listed.setIfInBounds i true).size := by simpa using hys
      unfold wpOp at h2
      unfold wpOpIn
      cases ho : ops[i]? with
      | none => simp only [ho] at h2 ⊢; exact ih a w hl' hys' h0 h2.2
      | some o =>
        simp only [ho] at h2 ⊢
        by_cases hw : Region.wanted o (yielded ops a.tmps) = true
        · simp only [hw, if_true] at h2 ⊢
          rcases h2 with h2 | ⟨_, h2⟩
          · exact op_in hF hq (hl i o hiy ho hun) (fun a w h0 hk => ih a w hl' hys' h0 hk.2) h0 h2
          · exact (hq h2).elim
        · simp only [hw, Bool.false_eq_true, if_false] at h2 ⊢
          exact ⟨fun f _ => hF.fn f, by rw [put_ds]; exact ih _ _ hl' hys' (by rw [put_defers]; exact h0) h2.2⟩
end
end
/-- A call of yield as an operation of a region, or passed. -/
def EYd (P : Program) (N : Nat) (ops : Array Oper) (o : Oper) (x y1 y2 : Operand) (K : Act → World → Prop) (a : Act) (w : World) : Prop :=
  (Region.wanted o (yielded ops a.tmps) = true ∧ ∃ l, a.eval x = .func (.yield l) #[] #[] ∧ ∃ R : Ending → World → Prop, YieldAt Fence.wide (N - 1) P l #[a.eval y1, a.eval y2] w R ∧ ∀ e w', R e w' → e = .returned (.bool true) ∧ K (a.put o.dst (.bool true)) w') ∨
  (Region.wanted o (yielded ops a.tmps) = false ∧ K (a.put o.dst undef) w)
section
variable {P : Program} {ops : Array Oper} {Q : Exit → Act → World → Prop} {y N n k : Nat} {EY : (Act → World → Prop) → Act → World → Prop} {C D : World → Prop} {fs : Fr} {listed : Array Bool} {i d : Nat} {op : Op} {t : TypeId} {pos : String} {af : Array Edge} {g : Option (Nat × Bool)}
def VY (P : Program) (ops : Array Oper) (Q : Exit → Act → World → Prop) (n y : Nat) (EY : (Act → World → Prop) → Act → World → Prop) (listed : Array Bool) (k : Nat) (C : World → Prop) (fs : Fr) : Prop :=
  ∀ a w, Slots n fs a → C w → wpY P .any ops (NoPanic Q) y EY C k listed a w
structure NxY (ops : Array Oper) (y : Nat) (listed : Array Bool) (i : Nat) (o : Oper) : Prop extends Nx ops listed i o where
  wait : Blk ops .any i listed y
def nxYB (ops : Array Oper) (y : Nat) (listed : Array Bool) (i : Nat) : Bool := nxB ops listed i && blkB ops .any i listed 40 y
theorem NxY.of {o : Oper} (h : nxYB ops y listed i = true) (ho : ops[i]? = some o) : NxY ops y listed i o := by
  simp only [nxYB, Bool.and_eq_true] at h
  exact { Nx.of h.1 ho with wait := blkB_spec _ _ h.2 }
theorem NxY.take {o : Oper} {v : Value} (hn : NxY ops y listed i o) {a : Act} {w : World} (hy : YieldsIf P ops C o v a) (hc : C w)
    (h : wpY P .any ops (NoPanic Q) y EY C k (listed.setIfInBounds i true) (a.put o.dst v) w) : wpY P .any ops (NoPanic Q) y EY C (k + 1) listed a w :=
  Y_first hn.at_ (Region.noSelect_spec hn.sel) (fun _ _ _ h => h) (by cases hn.wait <;> exact Ne.symm ‹_›) k listed a w hn.wait (Region.free_spec hn.at_ hn.free) (by simpa using hn.ready) hy hc h
theorem VY.st {v : Value} (hn : NxY ops y listed i ⟨some d, op, t, pos, af, g⟩) (hg : wantB ops fs g = true) (hp : plainB op = true) (hd : Nat.blt d n = true) (hy : Y P op t n fs C v)
    (next : VY P ops Q n y EY (listed.setIfInBounds i true) k C ((d, v) :: fs)) : VY P ops Q n y EY listed (k + 1) C fs := by
  intro a w hs hc
  exact hn.take (.inl ⟨wantB_out hs _ hg, fun w' hw' => hy.strict hp _ _ _ _ hs hw'⟩) hc (next _ w (hs.put hd v) hc)
theorem VY.nil {x : Operand} {ad : Addr} (hn : NxY ops y listed i ⟨some d, .nilCheck x, t, pos, af, g⟩) (hg : wantB ops fs g = true) (hd : Nat.blt d n = true) (hx : val fs x = some (.pointer (some ad)))
    (next : VY P ops Q n y EY (listed.setIfInBounds i true) k C ((d, .pointer (some ad)) :: fs)) : VY P ops Q n y EY listed (k + 1) C fs := by
  intro a w hs hc
  exact hn.take (.inl ⟨wantB_out hs _ hg, fun w' hw' => by simp only [execOp, hs.eval hx]; simp⟩) hc (next _ w (hs.put hd _) hc)
theorem VY.ap {α : Type} {gp : Nat → Nat} {lp : List α} {ap : Int} {u0 : α} {x : Operand} (hn : NxY ops y listed i ⟨some d, .nilCheck x, t, pos, af, g⟩) (hg : wantB ops fs g = true) (hd : Nat.blt d n = true) (hx : val fs x = some (VP gp ap)) (h : idx lp ap = some u0)
    (next : VY P ops Q n y EY (listed.setIfInBounds i true) k C ((d, pt (gp ap.toNat) 0) :: fs)) : VY P ops Q n y EY listed (k + 1) C fs := by
  rw [VP_pt (idx_some h).1] at hx
  exact VY.nil hn hg hd hx next
theorem VY.pass (hn : NxY ops y listed i ⟨some d, op, t, pos, af, g⟩) (hg : passB ops fs g = true) (hd : Nat.blt d n = true)
    (next : VY P ops Q n y EY (listed.setIfInBounds i true) k C ((d, undef) :: fs)) : VY P ops Q n y EY listed (k + 1) C fs := by
  intro a w hs hc
  exact hn.take (.inr ⟨passB_out hs _ hg, rfl⟩) hc (next _ w (hs.put hd _) hc)
theorem VY.eff {x y1 y2 : Operand} {l : Nat} {v1 v2 : Value} {ts : Array TypeId} {S : Array Bool → World → Prop} (hr : Region.ready .any ops listed = [y]) (hd : Nat.blt d n = true) (hg : wantB ops fs g = true) (hx : val fs x = some (.func (.yield l) #[] #[])) (hy1 : val fs y1 = some v1) (hy2 : val fs y2 = some v2)
    (hy : ∀ W, C W → YieldAt Fence.wide (N - 1) P l #[v1, v2] W fun e W' => e = .returned (.bool true) ∧ D W') (hS : ∀ W, D W → S (listed.setIfInBounds y true) W)
    (next : V2 P ops Q n S (listed.setIfInBounds y true) k D ((d, .bool true) :: fs)) :
    VY P ops Q n y (EYd P N ops ⟨some d, .call ⟨.value x, #[y1, y2], ts⟩, t, pos, af, g⟩ x y1 y2) listed (k + 1) C fs := by
  intro a w hs hc
  refine ⟨fun h0 => (by rw [hr] at h0; cases h0), fun i hi => ?_⟩
  rw [hr, List.mem_singleton] at hi
  subst hi
  rw [if_pos rfl]
  refine .inl ⟨wantB_out hs _ hg, l, hs.eval hx, _, (by rw [hs.eval hy1, hs.eval hy2]; exact hy w hc), ?_⟩
  rintro e w' ⟨rfl, hD⟩
  exact ⟨rfl, wpAny_of_F _ _ _ _ (next _ w' (hs.put hd _) hD (hS w' hD))⟩
theorem VY.effPass {x y1 y2 : Operand} {ts : Array TypeId} {S : Array Bool → World → Prop} (hr : Region.ready .any ops listed = [y]) (hd : Nat.blt d n = true) (hg : passB ops fs g = true) (hS : ∀ W, C W → S (listed.setIfInBounds y true) W)
    (next : V2 P ops Q n S (listed.setIfInBounds y true) k C ((d, undef) :: fs)) :
    VY P ops Q n y (EYd P N ops ⟨some d, .call ⟨.value x, #[y1, y2], ts⟩, t, pos, af, g⟩ x y1 y2) listed (k + 1) C fs := by
  intro a w hs hc
  refine ⟨fun h0 => (by rw [hr] at h0; cases h0), fun i hi => ?_⟩
  rw [hr, List.mem_singleton] at hi
  subst hi
  rw [if_pos rfl]
  exact .inr ⟨passB_out hs _ hg, wpAny_of_F _ _ _ _ (next _ w (hs.put hd _) hc (hS w hc))⟩
theorem G.drawnY {id : Nat} {l : List Oper} {x y1 y2 : Operand} {ts : Array TypeId} (y : Nat) (hk : l.length = k) (ho : l[y]? = some ⟨some d, .call ⟨.value x, #[y1, y2], ts⟩, t, pos, af, g⟩) (hl : ((List.range l.length).all fun i => i == y || match l[i]? with | some o => noDefP P o.op | none => true) = true)
    (hm : P.follows .mixedOrders = true) (hdrew : ∀ w, C w → C { w with drawn := w.drawn + 1 })
    (h : VY P l.toArray Q n y (EYd P N l.toArray ⟨some d, .call ⟨.value x, #[y1, y2], ts⟩, t, pos, af, g⟩ x y1 y2) (Array.replicate k false) k C fs) : G Fence.wide N [] P Q n C (.region id l.toArray true) fs := by
  subst hk
  intro hq a w hs hc
  refine wpIn_mono (wpIn_region_any hm (any_inY (Q := NoPanic Q) (y := y) (C := C) .flat (NoPanic.out hq) (hE := ?_) l.toArray.size (Array.replicate l.toArray.size false) a _ (fun i o hi ho' _ => ?_) ?_ hs.defers (by simpa using h a _ hs (hdrew w hc)))) ?_
  · rintro K K' a w h0 hK hE
    unfold wpOpIn
    have ho2 : l.toArray[y]? = some ⟨some d, .call ⟨.value x, #[y1, y2], ts⟩, t, pos, af, g⟩ := by simpa using ho
    simp only [ho2]
    rcases hE with ⟨hw, lp, hx, R, ⟨fn, tmps, assign, body, hr, hR⟩, hk⟩ | ⟨hw, hk⟩
    · rw [if_pos (by simpa using hw)]
      refine ⟨fun f _ => trivial, ?_⟩
      have hrun : (Oper.semAt Fence.wide.round ({ a with defers := [] } : Act).eval ⟨some d, .call ⟨.value x, #[y1, y2], ts⟩, t, pos, af, g⟩).run P w = .ok (.round lp fn tmps assign body) w := by
        rw [show Fence.wide.round = none from rfl, Oper.semAt_none, eval_ds]
        simp only [execOp, resolve, hx]
        simp [Deferred.ofValue, invoke, hr]
      rw [hrun]
      refine ⟨fun h => (by cases h), hR.mono ?_⟩
      rintro e W' he
      obtain ⟨rfl, h2⟩ := hk e W' he
      have := hK _ _ (by rw [put_defers]; exact h0) h2
      rw [← put_ds] at this
      exact this
    · rw [if_neg (by simpa using hw)]
      exact ⟨fun f _ => trivial, by rw [put_ds]; exact hK _ _ (by rw [put_defers]; exact h0) hk⟩
  · rw [List.all_eq_true] at hl
    have hil : i < l.length := by
      have := (Array.getElem?_eq_some_iff.1 ho').1
      simpa using this
    have h2 := hl i (List.mem_range.2 hil)
    have ho3 : l[i]? = some o := by simpa using ho'
    rw [ho3] at h2
    simpa [hi] using h2
  · have := (List.getElem?_eq_some_iff.1 ho).1
    simpa using this
  · rintro e a' w' ⟨a0, h0, rfl, h1⟩
    exact dq.mk (NoPanic.imp e a0 w' h1) h0
theorem wpAny_of_Y {md : Region.Mode} {Q' : Exit → Act → World → Prop} : ∀ (fuel : Nat) (listed : Array Bool) (a : Act) (w : World), wpY P md ops Q' y (fun K a w => wpOp P ops Q' y K a w) C fuel listed a w → wpAny P md ops Q' fuel listed a w
  | 0, _, _, _, h => h
  | fuel + 1, listed, a, w, h => ⟨h.1, fun i hi => by
    have h2 := h.2 i hi
    by_cases c : i = y
    · subst c; rw [if_pos rfl] at h2; exact h2
    · rw [if_neg c] at h2; exact wpOp_mono (fun a' w' h' => wpAny_of_Y fuel _ a' w' h'.2) h2⟩
theorem VY.effL {S : Array Bool → World → Prop} {o : Oper} (hr : Region.ready .any ops listed = [y]) (hi : ops[y]? = some o) (h : L P ops (KV2 P ops Q S k (listed.setIfInBounds y true)) n C [o] fs) : VY P ops Q n y (fun K a w => wpOp P ops (NoPanic Q) y K a w) listed (k + 1) C fs := by
  intro a w hs hc
  refine ⟨fun h0 => (by rw [hr] at h0; cases h0), fun i hi' => ?_⟩
  rw [hr, List.mem_singleton] at hi'
  subst hi'
  rw [if_pos rfl]
  exact wpOp_mono (fun a' w' h' => wpAny_of_F _ _ _ _ h'.2) (wpOp_of_KG hi (h a w hs hc))
theorem G.drawnE {F : Fence} {ds : List Deferred} {id : Nat} {l : List Oper} (y : Nat) (hF : Wide F) (hl : (l.all fun o => noDefP P o.op) = true) (hk : l.length = k) (hm : P.follows .mixedOrders = true) (hdrew : ∀ w, C w → C { w with drawn := w.drawn + 1 })
    (h : VY P l.toArray Q n y (fun K a w => wpOp P l.toArray (NoPanic Q) y K a w) (Array.replicate k false) k C fs) : G F N ds P Q n C (.region id l.toArray true) fs := by
  subst hk
  intro hq a w hs hc
  refine wpIn_mono (wpIn_region_any hm (any_in (Q := NoPanic Q) hF (NoPanic.out hq) (by simpa using hl) l.toArray.size _ a _ hs.defers (wpAny_of_Y _ _ _ _ (by simpa using h a _ hs (hdrew w hc))))) ?_
  rintro e a' w' ⟨a0, h0, rfl, h1⟩
  exact dq.mk (NoPanic.imp e a0 w' h1) h0
end
end Go.S
