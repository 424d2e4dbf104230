/-
  Regions that draw their order and make things: what is plain is taken first, the rest as it comes.
  Conditions: none.
-/
import Derived.Test.YtdebhhjbgbkbjaaP
import Derived.OrdersHeld
import Derived.Deep.RegionHeld
import Derived.Deep.RegionHeld3
namespace Go.S
/-- An operation that yields a value and enters nothing. -/
def plainB : Op → Bool
  | .move _ | .assign _ | .pick .. | .load .. | .binOp .. | .unOp .. | .convert .. | .makeFunc .. | .slice .. | .fieldAddr .. | .indexAddr .. | .index .. | .extract .. | .build .. | .lookup .. => true
  | .call ⟨.builtin .len, _, _⟩ | .call ⟨.builtin .max, _, _⟩ | .call ⟨.builtin .min, _, _⟩ => true
  | _ => false
section
variable {P : Program} {Q : Exit → Act → World → Prop} {n : Nat} {C D : World → Prop} {fs : Fr} {ops : Array Oper} {d : Nat} {op : Op} {t : TypeId} {pos : String} {af : Array Edge} {listed : Array Bool} {k i : Nat} {g : Option (Nat × Bool)}
theorem strict_f {α : Type} {s : Sem α} {f : α → Value} {w : World} {v : Value} (h : Oper.quietUpon P C w v ((do pure (Next.value (f (← s))) : Sem Next).run P w)) : (do pure (Next.value (f (← s))) : Sem Next).run P w = .ok (.value v) w := by
  simp only [Sem.run_bind] at h ⊢
  cases hr : s.run P w with
  | ok u w' =>
    rw [hr] at h
    simp only [Result.andThen_ok, Sem.run_pure, Oper.quietUpon] at h ⊢
    obtain ⟨rfl, rfl⟩ := h
    rfl
  | halt x w' => rw [hr] at h; simp [Result.andThen, Oper.quietUpon] at h
theorem strict_r {r : Result Value} {w : World} {v : Value} (h : Oper.quietUpon P C w v (r.andThen fun a w' => .ok (Next.value a) w')) : (r.andThen fun a w' => Result.ok (Next.value a) w') = .ok (.value v) w := by
  cases r with
  | ok u w' => simp only [Result.andThen, Oper.quietUpon] at h ⊢; obtain ⟨rfl, rfl⟩ := h; rfl
  | halt x w' => simp [Result.andThen, Oper.quietUpon] at h
theorem Y.strict {v : Value} (hp : plainB op = true) (hy : Y P op t n fs C v) (d : Option Tmp) (pos : String) (af : Array Edge) (g : Option (Nat × Bool)) {a : Act} {w : World} (hs : Slots n fs a) (hc : C w) :
    (execOp a.eval ⟨d, op, t, pos, af, g⟩).run P w = .ok (.value v) w := by
  have h := hy d pos af g a w hs hc
  by_cases hcall : ∃ c, op = .call c
  · obtain ⟨⟨cal, xs, ts⟩, rfl⟩ := hcall
    cases cal with
    | builtin b =>
      cases b <;> first | (simp only [plainB, Bool.false_eq_true] at hp; done) | skip
      all_goals
        simp only [execOp, resolve, invoke, builtin, Sem.run_bind, Sem.run_pure, Result.andThen_ok] at h ⊢
        exact strict_r h
    | _ => simp only [plainB, Bool.false_eq_true] at hp
  cases op <;> first | exact absurd ⟨_, rfl⟩ hcall | skip
  all_goals (simp only [plainB, Bool.false_eq_true] at hp)
  all_goals (simp only [execOp] at h ⊢)
  all_goals first
    | exact strict_f (f := id) h
    | (simp only [Sem.run_pure, Oper.quietUpon] at h ⊢; obtain ⟨_, rfl⟩ := h; rfl)
    | exact strict_f (f := fun b => if b = true then _ else _) h

def V (P : Program) (ops : Array Oper) (Q : Exit → Act → World → Prop) (n : Nat) (listed : Array Bool) (k : Nat) (C D : World → Prop) (fs : Fr) : Prop :=
  ∀ a w, Slots n fs a → C w → D w → wpAnyH P .any ops (NoPanic Q) D k listed a w

def wantB (ops : Array Oper) (fs : Fr) : Option (Nat × Bool) → Bool
  | none => true
  | some (j, b) => match gd ops fs j with
    | some (.bool c) => c == b
    | _ => false
def passB (ops : Array Oper) (fs : Fr) : Option (Nat × Bool) → Bool
  | none => false
  | some (j, b) => match gd ops fs j with
    | some (.bool c) => !(c == b)
    | some _ => true
    | none => false
theorem wantB_out {a : Act} (hs : Slots n fs a) (o : Option Tmp) (h : wantB ops fs g = true) : Region.wanted ⟨o, op, t, pos, af, g⟩ (yielded ops a.tmps) = true := by
  match g with
  | none => rfl
  | some (j, b) =>
    simp only [wantB] at h
    split at h
    · rename_i c hc
      have : c = b := by simpa using h
      subst this
      exact wanted_yes hs hc o
    · cases h
theorem passB_out {a : Act} (hs : Slots n fs a) (o : Option Tmp) (h : passB ops fs g = true) : Region.wanted ⟨o, op, t, pos, af, g⟩ (yielded ops a.tmps) = false := by
  match g with
  | none => cases h
  | some (j, b) =>
    simp only [passB] at h
    split at h
    · rename_i c hc
      refine wanted_no hs hc ?_ o
      intro he
      simp only [Value.bool.injEq] at he
      subst he
      simp at h
    · rename_i v hne hc
      exact wanted_no hs hc (fun he => hne b he) o
    · cases h

/-- The next operation, that may be taken first. -/
structure Nx (ops : Array Oper) (listed : Array Bool) (i : Nat) (o : Oper) : Prop where
  at_ : ops[i]? = some o
  sel : Region.noSelect ops = true
  free : Region.free .any ops listed i = true
  ready : (Region.ready .any ops listed).contains i = true
def nxB (ops : Array Oper) (listed : Array Bool) (i : Nat) : Bool := Region.noSelect ops && Region.free .any ops listed i && (Region.ready .any ops listed).contains i
theorem Nx.of {o : Oper} (h : nxB ops listed i = true) (ho : ops[i]? = some o) : Nx ops listed i o := by
  simp only [nxB, Bool.and_eq_true] at h
  exact ⟨ho, h.1.1, h.1.2, h.2⟩

theorem V.y {v : Value} (hn : Nx ops listed i ⟨some d, op, t, pos, af, g⟩) (hg : wantB ops fs g = true) (hp : plainB op = true) (hd : Nat.blt d n = true) (hy : Y P op t n fs D v)
    (next : V P ops Q n (listed.setIfInBounds i true) k C D ((d, v) :: fs)) : V P ops Q n listed (k + 1) C D fs := by
  intro a w hs hc hdw
  exact wpAnyH_take hn.at_ hn.sel hn.free hn.ready (fun _ _ _ h => h) (.inl ⟨wantB_out hs _ hg, fun w' hw' => hy.strict hp _ _ _ _ hs hw'⟩) hdw (next _ w (hs.put hd v) hc hdw)
theorem V.nilc {x : Operand} {ad : Addr} (hn : Nx ops listed i ⟨some d, .nilCheck x, t, pos, af, g⟩) (hg : wantB ops fs g = true) (hd : Nat.blt d n = true) (hx : val fs x = some (.pointer (some ad)))
    (next : V P ops Q n (listed.setIfInBounds i true) k C D ((d, .pointer (some ad)) :: fs)) : V P ops Q n listed (k + 1) C D fs := by
  intro a w hs hc hdw
  exact wpAnyH_take hn.at_ hn.sel hn.free hn.ready (fun _ _ _ h => h) (.inl ⟨wantB_out hs _ hg, fun w' hw' => by simp only [execOp, hs.eval hx]; simp⟩) hdw (next _ w (hs.put hd _) hc hdw)
theorem V.pass (hn : Nx ops listed i ⟨some d, op, t, pos, af, g⟩) (hg : passB ops fs g = true) (hd : Nat.blt d n = true)
    (next : V P ops Q n (listed.setIfInBounds i true) k C D ((d, undef) :: fs)) : V P ops Q n listed (k + 1) C D fs := by
  intro a w hs hc hdw
  exact wpAnyH_take hn.at_ hn.sel hn.free hn.ready (fun _ _ _ h => h) (.inr ⟨passB_out hs _ hg, rfl⟩) hdw (next _ w (hs.put hd _) hc hdw)
theorem V.done (hr : (Region.ready .any ops listed).isEmpty = true) (h : E .normal Q n C fs) : V P ops Q n listed k C D fs := by
  intro a w hs hc hdw
  exact wpAnyH_done (Q := NoPanic Q) (List.isEmpty_iff.1 hr) (NoPanic.normal (h a w hs hc)) _

/-! Laws that carry the answer. -/
section
variable {α ρ : Type} {r : ρ}
theorem V.m {o : Option α} {f : α → Option ρ} {V' : α → Value} (h : bind1 o f = some r) (hn : Nx ops listed i ⟨some d, op, t, pos, af, g⟩) (hg : wantB ops fs g = true) (hp : plainB op = true) (hd : Nat.blt d n = true)
    (hy : ∀ x, o = some x → Y P op t n fs D (V' x)) (next : ∀ x, o = some x → f x = some r → V P ops Q n (listed.setIfInBounds i true) k C D ((d, V' x) :: fs)) : V P ops Q n listed (k + 1) C D fs := by
  obtain ⟨x, hx, h⟩ := bind1S h
  exact V.y hn hg hp hd (hy x hx) (next x hx h)
theorem V.ite {p : Prop} [Decidable p] {A B : Option ρ} (h : (if p then A else B) = some r) (hn : Nx ops listed i ⟨some d, op, t, pos, af, g⟩) (hg : wantB ops fs g = true) (hp : plainB op = true) (hd : Nat.blt d n = true)
    (hy : Y P op t n fs D (.bool (decide p))) (k1 : p → A = some r → V P ops Q n (listed.setIfInBounds i true) k C D ((d, .bool true) :: fs)) (k2 : ¬p → B = some r → V P ops Q n (listed.setIfInBounds i true) k C D ((d, .bool false) :: fs)) :
    V P ops Q n listed (k + 1) C D fs := by
  by_cases hq : p
  · exact V.y hn hg hp hd (by simpa [hq] using hy) (k1 hq (by rwa [if_pos hq] at h))
  · exact V.y hn hg hp hd (by simpa [hq] using hy) (k2 hq (by rwa [if_neg hq] at h))
theorem V.iteB {b : Bool} {A B : Option ρ} (h : (if b = true then A else B) = some r) (hn : Nx ops listed i ⟨some d, op, t, pos, af, g⟩) (hg : wantB ops fs g = true) (hp : plainB op = true) (hd : Nat.blt d n = true)
    (hy : Y P op t n fs D (.bool b)) (k1 : b = true → A = some r → V P ops Q n (listed.setIfInBounds i true) k C D ((d, .bool true) :: fs)) (k2 : ¬b = true → B = some r → V P ops Q n (listed.setIfInBounds i true) k C D ((d, .bool false) :: fs)) :
    V P ops Q n listed (k + 1) C D fs := by
  cases b with
  | true => exact V.y hn hg hp hd hy (k1 rfl h)
  | false => exact V.y hn hg hp hd hy (k2 (by simp) (by simpa using h))
end

/-! Operations that make or enter something: the one that is ready. -/
def KV (P : Program) (ops : Array Oper) (Q : Exit → Act → World → Prop) (D : World → Prop) (k : Nat) (listed : Array Bool) : Exit → Act → World → Prop :=
  fun e a w => e = .normal ∧ D w ∧ wpAnyH P .any ops (NoPanic Q) D k listed a w
theorem noOut : ¬ LetsOut (KV P ops Q D k listed) := fun ⟨_, _, h, _⟩ => by cases h
theorem wpOp_of_KV {o : Oper} {a : Act} {w : World} (hi : ops[i]? = some o) (h : wpList P ops (KV P ops Q D k listed) [o] a w) : wpOp P ops (NoPanic Q) i (fun a' w' => D w' ∧ wpAnyH P .any ops (NoPanic Q) D k listed a' w') a w := by
  have hK : ∀ a w, wpList P ops (KV P ops Q D k listed) [] a w → D w ∧ wpAnyH P .any ops (NoPanic Q) D k listed a w := fun a w h => h.2
  unfold wpOp
  simp only [hi]
  simp only [wpList] at h
  by_cases hw : Region.wanted o (yielded ops a.tmps) = true
  · simp only [hw, if_true] at h ⊢
    rcases h with h | ⟨_, h⟩
    · refine .inl ?_
      unfold Oper.wp at *
      generalize (execOp a.eval o).run P w = r at *
      cases r with
      | ok x w' =>
        cases x <;> simp only [Oper.upon] at h ⊢
        case value u => exact h.2
        case skip => exact h.2
        case defer d => exact h.2
        case enter f args =>
          refine Calls.mono h fun e w'' he => ?_
          cases e with
          | returned u => exact he.2
          | panicked c => exact absurd he.1 (by nofun)
          | outgrown => exact (noOut he).elim
        case row row args => exact Rows.mono h fun u w'' he => he.2
      | halt x w' =>
        cases x <;> simp only [Oper.upon] at h ⊢
        case panic u => exact absurd h.1 (by nofun)
    · exact (noOut h).elim
  · simp only [hw, Bool.false_eq_true, if_false] at h ⊢
    exact h.2
theorem V.eff {o : Oper} (hr : Region.ready .any ops listed = [i]) (hi : ops[i]? = some o) (h : L P ops (KV P ops Q D k (listed.setIfInBounds i true)) n C [o] fs) : V P ops Q n listed (k + 1) C D fs := by
  intro a w hs hc hdw
  refine wpAnyH_all hr (by nofun) fun j hj => ?_
  rw [List.mem_singleton] at hj
  subst hj
  exact wpOp_of_KV hi (h a w hs hc)
theorem V.eff2 {i1 i2 : Nat} {o1 o2 : Oper} (hr : Region.ready .any ops listed = [i1, i2]) (h1 : ops[i1]? = some o1) (h2 : ops[i2]? = some o2) (k1 : L P ops (KV P ops Q D k (listed.setIfInBounds i1 true)) n C [o1] fs) (k2 : L P ops (KV P ops Q D k (listed.setIfInBounds i2 true)) n C [o2] fs) :
    V P ops Q n listed (k + 1) C D fs := by
  intro a w hs hc hdw
  refine wpAnyH_all hr (by nofun) fun j hj => ?_
  simp only [List.mem_cons, List.not_mem_nil, or_false] at hj
  rcases hj with rfl | rfl
  · exact wpOp_of_KV h1 (k1 a w hs hc)
  · exact wpOp_of_KV h2 (k2 a w hs hc)
theorem V.eff3 {i1 i2 i3 : Nat} {o1 o2 o3 : Oper} (hr : Region.ready .any ops listed = [i1, i2, i3]) (h1 : ops[i1]? = some o1) (h2 : ops[i2]? = some o2) (h3 : ops[i3]? = some o3) (k1 : L P ops (KV P ops Q D k (listed.setIfInBounds i1 true)) n C [o1] fs) (k2 : L P ops (KV P ops Q D k (listed.setIfInBounds i2 true)) n C [o2] fs) (k3 : L P ops (KV P ops Q D k (listed.setIfInBounds i3 true)) n C [o3] fs) :
    V P ops Q n listed (k + 1) C D fs := by
  intro a w hs hc hdw
  refine wpAnyH_all hr (by nofun) fun j hj => ?_
  simp only [List.mem_cons, List.not_mem_nil, or_false] at hj
  rcases hj with rfl | rfl | rfl
  · exact wpOp_of_KV h1 (k1 a w hs hc)
  · exact wpOp_of_KV h2 (k2 a w hs hc)
  · exact wpOp_of_KV h3 (k3 a w hs hc)
theorem W.drawn {id : Nat} {l : List Oper} (hk : l.length = k) (hm : P.follows .mixedOrders = true) (hdrew : ∀ w, C w → C { w with drawn := w.drawn + 1 }) (hd : ∀ w, C w → D w)
    (h : V P l.toArray Q n (Array.replicate k false) k C D fs) : W P Q n C (.region id l.toArray true) fs := by
  subst hk
  exact fun a _w hs hc => wp_region_noPanic (wp_region_held_drew hm (hd _ (hdrew _ hc)) fun hs' => by simpa using h a _ hs (hdrew _ hc) hs')
end
end Go.S
