/-
  Regions that draw their order, in stages: what is turned late is known till then.
  Conditions: none.
-/
import Derived.Test.YtdebhhjbgbkbjaaD
namespace Go.S
set_option linter.unusedVariables false
set_option linter.unusedSimpArgs false
section
variable {P : Program} {ops : Array Oper} {Q : Exit → Act → World → Prop} {md : Region.Mode} {S S' : Array Bool → World → Prop} {B D Z : World → Prop} {bs : List Nat}
/-- Has none of these come up? -/
def stOpen (bs : List Nat) (L : Array Bool) : Bool := bs.all fun b => !(L.getD b true)
/-- What is known at each stage: of the first one that has not ended; behind all, D. -/
def stC : List (List Nat) → List (World → Prop) → (World → Prop) → Array Bool → World → Prop
  | bs :: r, B :: q, D, L, w => match stOpen bs L with
    | true => B w
    | false => stC r q D L w
  | _, _, D, _, w => D w
def wpAnyF (P : Program) (md : Region.Mode) (ops : Array Oper) (Q : Exit → Act → World → Prop) (S : Array Bool → World → Prop) : Nat → Array Bool → Act → World → Prop
  | 0, listed, a, w => Region.ready md ops listed = [] ∧ Q .normal a w
  | fuel + 1, listed, a, w =>
    (Region.ready md ops listed = [] → Q .normal a w) ∧
    ∀ i ∈ Region.ready md ops listed, wpOp P ops Q i (fun a' w' => S (listed.setIfInBounds i true) w' ∧ wpAnyF P md ops Q S fuel (listed.setIfInBounds i true) a' w') a w
theorem wpAny_of_F : ∀ (fuel : Nat) (listed : Array Bool) (a : Act) (w : World), wpAnyF P md ops Q S fuel listed a w → wpAny P md ops Q fuel listed a w
  | 0, _, _, _, h => h
  | fuel + 1, _, _, _, h => ⟨h.1, fun i hi => wpOp_mono (fun a' w' h' => wpAny_of_F fuel _ a' w' h'.2) (h.2 i hi)⟩
theorem F_imp {b : Nat} (hS : ∀ (L : Array Bool) w, L.getD b false = true → S' L w → S L w) : ∀ (fuel : Nat) (listed : Array Bool) (a : Act) (w : World), listed.getD b false = true → wpAnyF P md ops Q S' fuel listed a w → wpAnyF P md ops Q S fuel listed a w
  | 0, _, _, _, _, h => h
  | fuel + 1, listed, _, _, hb, h => ⟨h.1, fun i hi => wpOp_mono (fun a' w' h' => ⟨hS _ _ (getD_set_true hb) h'.1, F_imp hS fuel _ a' w' (getD_set_true hb) h'.2⟩) (h.2 i hi)⟩
theorem stOpen_ne {i : Nat} {L : Array Bool} (hi : i ∉ bs) : stOpen bs (L.setIfInBounds i true) = stOpen bs L := by
  unfold stOpen
  rw [Bool.eq_iff_iff, List.all_eq_true, List.all_eq_true]
  constructor
  · intro h b hb
    have := h b hb
    rwa [getD_set_ne true (by rintro rfl; exact hi hb)] at this
  · intro h b hb
    rw [getD_set_ne true (by rintro rfl; exact hi hb)]
    exact h b hb
/-- Do all of these wait for i? -/
def waitB (ops : Array Oper) (md : Region.Mode) (bs : List Nat) (i : Nat) : Bool := bs.all fun b => !(Nat.beq b i) && match ops[b]? with
  | some o => o.after.toList.any fun e => Region.binds md e && Nat.beq e.on i
  | none => false
theorem waitB_spec {i b : Nat} (h : waitB ops md bs i = true) (hb : b ∈ bs) : b ≠ i ∧ ∃ o, ops[b]? = some o ∧ ∃ e ∈ o.after, Region.binds md e = true ∧ e.on = i := by
  have := List.all_eq_true.1 h b hb
  simp only [Bool.and_eq_true, Bool.not_eq_true'] at this
  refine ⟨Nat.ne_of_beq_eq_false this.1, ?_⟩
  cases ho : ops[b]? with
  | none => rw [ho] at this; exact absurd this.2 (by simp)
  | some o =>
    rw [ho] at this
    obtain ⟨e, he, h2⟩ := List.any_eq_true.1 this.2
    simp only [Bool.and_eq_true] at h2
    exact ⟨o, rfl, e, by simpa using he, h2.1, Nat.eq_of_beq_eq_true h2.2⟩
theorem F_first {i : Nat} {oi : Oper} {v : Value} (hi : ops[i]? = some oi) (hsel : ∀ (j : Nat) (o : Oper) cs b, ops[j]? = some o → o.op ≠ .select cs b)
    (hQ : ∀ c a w, Q (.panic c) (a.put oi.dst v) w → Q (.panic c) a w) (hwait : waitB ops md bs i = true) (hS' : ∀ (L : Array Bool) w, S (L.setIfInBounds i true) w = S L w) (hZ : ∀ (L : Array Bool) w, stOpen bs L = true → S L w → Z w) :
    ∀ (fuel : Nat) (listed : Array Bool) (a : Act) (w : World), stOpen bs listed = true →
      (∀ j oj, ops[j]? = some oj → j ≠ i → listed.getD j true = false → (∀ e ∈ oj.after, Region.binds md e = true → e.on ≠ i) → oi.apart ops oj = true) →
      i ∈ Region.ready md ops listed → YieldsIf P ops Z oi v a → S listed w →
      wpAnyF P md ops Q S fuel (listed.setIfInBounds i true) (a.put oi.dst v) w → wpAnyF P md ops Q S (fuel + 1) listed a w := by
  intro fuel
  induction fuel with
  | zero =>
    intro listed a w ho hfree hr hy hS H
    refine ⟨fun h => (by rw [h] at hr; cases hr), fun j hj => ?_⟩
    by_cases hji : j = i
    · subst hji; exact hy.wpOp hi (hZ _ _ ho hS) ⟨by rw [hS']; exact hS, H⟩
    · have := ready_mono hj hji
      rw [H.1] at this
      cases this
  | succ fuel ih =>
    intro listed a w ho hfree hr hy hS H
    refine ⟨fun h => (by rw [h] at hr; cases hr), fun j hj => ?_⟩
    by_cases hji : j = i
    · subst hji; exact hy.wpOp hi (hZ _ _ ho hS) ⟨by rw [hS']; exact hS, H⟩
    · have h1 := H.2 j (ready_mono hj hji)
      obtain ⟨hjun, oj, hoj, hall⟩ := mem_ready.1 hj
      have hnot : ∀ e ∈ oj.after, Region.binds md e = true → e.on ≠ i := fun e he hb heq => by
        have h1 := hall e he hb
        have h0 := (mem_ready.1 hr).1
        rw [heq] at h1
        rcases Nat.lt_or_ge i listed.size with h' | h'
        · simp [h'] at h0 h1; rw [h0] at h1; cases h1
        · simp [Array.getElem?_eq_none h'] at h1
      have hjb : j ∉ bs := fun hb => by
        obtain ⟨_, o, ho', e, he, hbi, heq⟩ := waitB_spec hwait hb
        rw [hoj, Option.some.injEq] at ho'
        subst ho'
        exact hnot e he hbi heq
      have ho2 : stOpen bs (listed.setIfInBounds j true) = true := by rw [stOpen_ne hjb]; exact ho
      have h2 := wpOp_putIf hoj (hfree j oj hoj hji hjun hnot) (fun cs b => hsel i oi cs b hi) (fun cs b => hsel j oj cs b hoj) hQ hy h1
      have hfree' : ∀ k ok, ops[k]? = some ok → k ≠ i → (listed.setIfInBounds j true).getD k true = false →
          (∀ e ∈ ok.after, Region.binds md e = true → e.on ≠ i) → oi.apart ops ok = true := fun k ok hk hki hun hno => by
        refine hfree k ok hk hki ?_ hno
        by_cases hjk : j = k
        · subst hjk; exact hjun
        · rw [getD_set_ne true hjk] at hun; exact hun
      refine wpOp_mono (fun a' w' h3 => ?_) h2
      have hS2 : S (listed.setIfInBounds j true) w' := by
        have := h3.2.1
        rw [Array.setIfInBounds_comm _ _ (Ne.symm hji), hS'] at this
        exact this
      refine ⟨hS2, ih (listed.setIfInBounds j true) a' w' ho2 hfree' (ready_mono hr (Ne.symm hji)) h3.1 hS2 ?_⟩
      rw [Array.setIfInBounds_comm _ _ hji]
      exact h3.2.2
/-- Is i none of these? -/
def outB (bss : List (List Nat)) (i : Nat) : Bool := bss.all fun bs => bs.all fun b => !(Nat.beq b i)
theorem stC_set {i : Nat} : ∀ {bss : List (List Nat)} (Bs : List (World → Prop)), outB bss i = true → ∀ (L : Array Bool) w, stC bss Bs D (L.setIfInBounds i true) w = stC bss Bs D L w
  | [], _, _, L, w => rfl
  | bs :: r, [], _, L, w => rfl
  | bs :: r, B :: q, h, L, w => by
    simp only [outB, List.all_cons, Bool.and_eq_true] at h
    have hi : i ∉ bs := fun hb => by
      have := List.all_eq_true.1 h.1 i hb
      simp at this
    simp only [stC]
    rw [stOpen_ne hi, stC_set q h.2 L w]
section
variable {bz bs : List Nat} {r : List (List Nat)} {q q' : List (World → Prop)} {B' C D' : World → Prop} {i : Nat} {L : Array Bool}
theorem Zc.at1 (h : ∀ w, B w → Z w) : ∀ (L : Array Bool) w, stOpen bs L = true → stC (bs :: r) (B :: q) D L w → Z w := fun L w ho hs => by
  simp only [stC, ho] at hs; exact h w hs
theorem Zc.on (h : ∀ w, B w → Z w) (h2 : ∀ (L : Array Bool) w, stOpen bz L = true → stC r q D L w → Z w) : ∀ (L : Array Bool) w, stOpen bz L = true → stC (bs :: r) (B :: q) D L w → Z w := fun L w ho hs => by
  simp only [stC] at hs
  split at hs
  · exact h w hs
  · exact h2 L w ho hs
theorem Zc.fin (h : ∀ w, D w → Z w) : ∀ (L : Array Bool) w, stOpen bz L = true → stC [] [] D L w → Z w := fun _ w _ hs => h w hs
theorem Sc.stay (h : ∀ w, B' w → B w) (h2 : ∀ (L : Array Bool) w, L.getD i false = true → stC r q' D' L w → stC r q D L w) : ∀ (L : Array Bool) w, L.getD i false = true → stC (bs :: r) (B' :: q') D' L w → stC (bs :: r) (B :: q) D L w := fun L w hi hs => by
  cases ho : stOpen bs L with
  | true => simp only [stC, ho] at hs ⊢; exact h w hs
  | false => simp only [stC, ho] at hs ⊢; exact h2 L w hi hs
theorem Sc.past {S' : Array Bool → World → Prop} (hb : bs.contains i = true) (h2 : ∀ (L : Array Bool) w, L.getD i false = true → S' L w → stC r q D L w) : ∀ (L : Array Bool) w, L.getD i false = true → S' L w → stC (bs :: r) (B :: q) D L w := fun L w hi hs => by
  have ho : stOpen bs L = false := by
    unfold stOpen
    rw [List.all_eq_false]
    refine ⟨i, by simpa using hb, ?_⟩
    have h3 : L.getD i true = true := by
      rcases Nat.lt_or_ge i L.size with h' | h'
      · simp [h'] at hi ⊢; exact hi
      · simp [Array.getElem?_eq_none h'] at hi
    simp [h3]
  simp only [stC, ho]
  exact h2 L w hi hs
theorem Sc.stayD (h : ∀ w, D' w → D w) : ∀ (L : Array Bool) w, L.getD i false = true → stC [] [] D' L w → stC [] [] D L w := fun _ w _ hs => h w hs
theorem Sc.now (ho : stOpen bs L = true) (h : ∀ w, C w → B w) : ∀ w, C w → stC (bs :: r) (B :: q) D L w := fun w hc => by
  simp only [stC, ho]; exact h w hc
theorem Sc.atD (h : ∀ w, C w → D w) : ∀ w, C w → stC [] [] D L w := h
end
end

/-! ### The laws of a walk -/
def KG (K : Act → World → Prop) : Exit → Act → World → Prop := fun e a w => e = .normal ∧ K a w
section
variable {P : Program} {Q : Exit → Act → World → Prop} {n : Nat} {B C D Z : World → Prop} {S S' : Array Bool → World → Prop} {fs : Fr} {ops : Array Oper} {d : Nat} {op : Op} {t : TypeId} {pos : String} {af : Array Edge} {listed : Array Bool} {k i : Nat} {g : Option (Nat × Bool)} {K : Act → World → Prop}
theorem noOutG : ¬ LetsOut (KG K) := fun ⟨_, _, h, _⟩ => by cases h
theorem wpOp_of_KG {o : Oper} {a : Act} {w : World} (hi : ops[i]? = some o) (h : wpList P ops (KG K) [o] a w) : wpOp P ops (NoPanic Q) i K a w := by
  have hK : ∀ a w, wpList P ops (KG K) [] a w → K a w := fun a w h => h.2
  unfold wpOp
  simp only [hi]
  simp only [wpList] at h
  by_cases hw : Region.wanted o (yielded ops a.tmps) = true
  · simp only [hw, if_true] at h ⊢
    rcases h with h | ⟨_, h⟩
    · refine .inl ?_
      unfold Oper.wp at *
      generalize (execOp a.eval o).run P w = r at *
      cases r with
      | ok x w' =>
        cases x <;> simp only [Oper.upon] at h ⊢
        case value u => exact h.2
        case skip => exact h.2
        case defer d => exact h.2
        case enter f args =>
          refine Calls.mono h fun e w'' he => ?_
          cases e with
          | returned u => exact he.2
          | panicked c => exact absurd he.1 (by nofun)
          | outgrown => exact (noOutG he).elim
        case row row args => exact Rows.mono h fun u w'' he => he.2
      | halt x w' =>
        cases x <;> simp only [Oper.upon] at h ⊢
        case panic u => exact absurd h.1 (by nofun)
    · exact (noOutG h).elim
  · simp only [hw, Bool.false_eq_true, if_false] at h ⊢
    exact h.2
def V2 (P : Program) (ops : Array Oper) (Q : Exit → Act → World → Prop) (n : Nat) (S : Array Bool → World → Prop) (listed : Array Bool) (k : Nat) (C : World → Prop) (fs : Fr) : Prop :=
  ∀ a w, Slots n fs a → C w → S listed w → wpAnyF P .any ops (NoPanic Q) S k listed a w
/-- What must hold ahead of each plain step. -/
structure Nx2 (ops : Array Oper) (S : Array Bool → World → Prop) (Z : World → Prop) (listed : Array Bool) (i : Nat) (o : Oper) : Prop extends Nx ops listed i o where
  set' : ∀ (L : Array Bool) w, S (L.setIfInBounds i true) w = S L w
  z : ∃ bz, waitB ops .any bz i = true ∧ stOpen bz listed = true ∧ ∀ (L : Array Bool) w, stOpen bz L = true → S L w → Z w
def nx2B (ops : Array Oper) (bss : List (List Nat)) (bz : List Nat) (listed : Array Bool) (i : Nat) : Bool := nxB ops listed i && outB bss i && waitB ops .any bz i && stOpen bz listed
theorem Nx2.of {o : Oper} {bss : List (List Nat)} {Bs : List (World → Prop)} (bz : List Nat) (h : nx2B ops bss bz listed i = true) (ho : ops[i]? = some o) (hz : ∀ (L : Array Bool) w, stOpen bz L = true → stC bss Bs D L w → Z w) : Nx2 ops (stC bss Bs D) Z listed i o := by
  simp only [nx2B, Bool.and_eq_true] at h
  exact ⟨Nx.of h.1.1.1 ho, stC_set Bs h.1.1.2, bz, h.1.2, h.2, hz⟩
theorem Nx2.take {o : Oper} {v : Value} (hn : Nx2 ops S Z listed i o) {a : Act} {w : World} (hy : YieldsIf P ops Z o v a) (hs : S listed w)
    (h : wpAnyF P .any ops (NoPanic Q) S k (listed.setIfInBounds i true) (a.put o.dst v) w) : wpAnyF P .any ops (NoPanic Q) S (k + 1) listed a w := by
  obtain ⟨bz, h1, h2, h3⟩ := hn.z
  exact F_first hn.at_ (Region.noSelect_spec hn.sel) (fun _ _ _ h => h) h1 hn.set' h3 k listed a w h2 (Region.free_spec hn.at_ hn.free) (by simpa using hn.ready) hy hs h
theorem V2.y {v : Value} (hn : Nx2 ops S Z listed i ⟨some d, op, t, pos, af, g⟩) (hg : wantB ops fs g = true) (hp : plainB op = true) (hd : Nat.blt d n = true) (hy : Y P op t n fs Z v)
    (next : V2 P ops Q n S (listed.setIfInBounds i true) k C ((d, v) :: fs)) : V2 P ops Q n S listed (k + 1) C fs := by
  intro a w hs hc hb
  exact hn.take (.inl ⟨wantB_out hs _ hg, fun w' hw' => hy.strict hp _ _ _ _ hs hw'⟩) hb (next _ w (hs.put hd v) hc (by rw [hn.set']; exact hb))
theorem V2.nilc {x : Operand} {ad : Addr} (hn : Nx2 ops S Z listed i ⟨some d, .nilCheck x, t, pos, af, g⟩) (hg : wantB ops fs g = true) (hd : Nat.blt d n = true) (hx : val fs x = some (.pointer (some ad)))
    (next : V2 P ops Q n S (listed.setIfInBounds i true) k C ((d, .pointer (some ad)) :: fs)) : V2 P ops Q n S listed (k + 1) C fs := by
  intro a w hs hc hb
  exact hn.take (.inl ⟨wantB_out hs _ hg, fun w' hw' => by simp only [execOp, hs.eval hx]; simp⟩) hb (next _ w (hs.put hd _) hc (by rw [hn.set']; exact hb))
theorem V2.pass (hn : Nx2 ops S Z listed i ⟨some d, op, t, pos, af, g⟩) (hg : passB ops fs g = true) (hd : Nat.blt d n = true)
    (next : V2 P ops Q n S (listed.setIfInBounds i true) k C ((d, undef) :: fs)) : V2 P ops Q n S listed (k + 1) C fs := by
  intro a w hs hc hb
  exact hn.take (.inr ⟨passB_out hs _ hg, rfl⟩) hb (next _ w (hs.put hd _) hc (by rw [hn.set']; exact hb))
section
variable {α ρ : Type} {r : ρ}
theorem V2.m {o : Option α} {f : α → Option ρ} {V' : α → Value} (h : bind1 o f = some r) (hn : Nx2 ops S Z listed i ⟨some d, op, t, pos, af, g⟩) (hg : wantB ops fs g = true) (hp : plainB op = true) (hd : Nat.blt d n = true)
    (hy : ∀ x, o = some x → Y P op t n fs Z (V' x)) (next : ∀ x, o = some x → f x = some r → V2 P ops Q n S (listed.setIfInBounds i true) k C ((d, V' x) :: fs)) : V2 P ops Q n S listed (k + 1) C fs := by
  obtain ⟨x, hx, h⟩ := bind1S h
  exact V2.y hn hg hp hd (hy x hx) (next x hx h)
theorem V2.ite {p : Prop} [Decidable p] {X W : Option ρ} (h : (if p then X else W) = some r) (hn : Nx2 ops S Z listed i ⟨some d, op, t, pos, af, g⟩) (hg : wantB ops fs g = true) (hp : plainB op = true) (hd : Nat.blt d n = true)
    (hy : Y P op t n fs Z (.bool (decide p))) (k1 : p → X = some r → V2 P ops Q n S (listed.setIfInBounds i true) k C ((d, .bool true) :: fs)) (k2 : ¬p → W = some r → V2 P ops Q n S (listed.setIfInBounds i true) k C ((d, .bool false) :: fs)) :
    V2 P ops Q n S listed (k + 1) C fs := by
  by_cases hq : p
  · exact V2.y hn hg hp hd (by simpa [hq] using hy) (k1 hq (by rwa [if_pos hq] at h))
  · exact V2.y hn hg hp hd (by simpa [hq] using hy) (k2 hq (by rwa [if_neg hq] at h))
theorem V2.iteB {b : Bool} {X W : Option ρ} (h : (if b = true then X else W) = some r) (hn : Nx2 ops S Z listed i ⟨some d, op, t, pos, af, g⟩) (hg : wantB ops fs g = true) (hp : plainB op = true) (hd : Nat.blt d n = true)
    (hy : Y P op t n fs Z (.bool b)) (k1 : b = true → X = some r → V2 P ops Q n S (listed.setIfInBounds i true) k C ((d, .bool true) :: fs)) (k2 : ¬b = true → W = some r → V2 P ops Q n S (listed.setIfInBounds i true) k C ((d, .bool false) :: fs)) :
    V2 P ops Q n S listed (k + 1) C fs := by
  cases b with
  | true => exact V2.y hn hg hp hd hy (k1 rfl h)
  | false => exact V2.y hn hg hp hd hy (k2 (by simp) (by simpa using h))
theorem V2.caseB {X W : Option ρ} {b : Bool} {q : Nat} (h : (if b = true then X else W) = some r) (hv : look fs q = some (.bool b)) (k1 : X = some r → V2 P ops Q n S listed k C ((q, .bool true) :: fs)) (k2 : W = some r → V2 P ops Q n S listed k C ((q, .bool false) :: fs)) : V2 P ops Q n S listed k C fs := by
  cases b with
  | true => exact fun a w hs hc hd => k1 h a w (hs.again hv) hc hd
  | false => exact fun a w hs hc hd => k2 (by simpa using h) a w (hs.again hv) hc hd
end
/-- Behind one that came up. -/
def KV2 (P : Program) (ops : Array Oper) (Q : Exit → Act → World → Prop) (S : Array Bool → World → Prop) (k : Nat) (L : Array Bool) : Exit → Act → World → Prop :=
  KG fun a w => S L w ∧ wpAnyF P .any ops (NoPanic Q) S k L a w
theorem V2.effs {rs : List Nat} (hr : Region.ready .any ops listed = rs) (hne : rs ≠ []) (h : ∀ i ∈ rs, ∃ o, ops[i]? = some o ∧ L P ops (KV2 P ops Q S k (listed.setIfInBounds i true)) n C [o] fs) : V2 P ops Q n S listed (k + 1) C fs := by
  intro a w hs hc hb
  refine ⟨fun h0 => absurd (hr ▸ h0) hne, fun i hi => ?_⟩
  rw [hr] at hi
  obtain ⟨o, ho, hl⟩ := h i hi
  exact wpOp_of_KG ho (hl a w hs hc)
theorem V2.eff {o : Oper} (hr : Region.ready .any ops listed = [i]) (hi : ops[i]? = some o) (h : L P ops (KV2 P ops Q S k (listed.setIfInBounds i true)) n C [o] fs) : V2 P ops Q n S listed (k + 1) C fs :=
  V2.effs hr (by nofun) fun j hj => by rw [List.mem_singleton] at hj; subst hj; exact ⟨o, hi, h⟩
theorem V2.eff2 {i1 i2 : Nat} {o1 o2 : Oper} (hr : Region.ready .any ops listed = [i1, i2]) (h1 : ops[i1]? = some o1) (h2 : ops[i2]? = some o2) (k1 : L P ops (KV2 P ops Q S k (listed.setIfInBounds i1 true)) n C [o1] fs) (k2 : L P ops (KV2 P ops Q S k (listed.setIfInBounds i2 true)) n C [o2] fs) :
    V2 P ops Q n S listed (k + 1) C fs :=
  V2.effs hr (by nofun) fun j hj => by
    simp only [List.mem_cons, List.not_mem_nil, or_false] at hj
    rcases hj with rfl | rfl
    · exact ⟨o1, h1, k1⟩
    · exact ⟨o2, h2, k2⟩
theorem V2.eff3 {i1 i2 i3 : Nat} {o1 o2 o3 : Oper} (hr : Region.ready .any ops listed = [i1, i2, i3]) (h1 : ops[i1]? = some o1) (h2 : ops[i2]? = some o2) (h3 : ops[i3]? = some o3) (k1 : L P ops (KV2 P ops Q S k (listed.setIfInBounds i1 true)) n C [o1] fs) (k2 : L P ops (KV2 P ops Q S k (listed.setIfInBounds i2 true)) n C [o2] fs) (k3 : L P ops (KV2 P ops Q S k (listed.setIfInBounds i3 true)) n C [o3] fs) :
    V2 P ops Q n S listed (k + 1) C fs :=
  V2.effs hr (by nofun) fun j hj => by
    simp only [List.mem_cons, List.not_mem_nil, or_false] at hj
    rcases hj with rfl | rfl | rfl
    · exact ⟨o1, h1, k1⟩
    · exact ⟨o2, h2, k2⟩
    · exact ⟨o3, h3, k3⟩
theorem E.toV2 {C' : World → Prop} (S' : Array Bool → World → Prop) (i : Nat) (hi : listed.getD i false = true) (hS : ∀ (L : Array Bool) w, L.getD i false = true → S' L w → S L w) (hc : ∀ w, C' w → S' listed w) (h : V2 P ops Q n S' listed k C' fs) : E .normal (KV2 P ops Q S k listed) n C' fs :=
  fun a w hs hw => ⟨rfl, hS _ _ hi (hc w hw), F_imp hS k listed a w hi (h a w hs hw (hc w hw))⟩
theorem V2.done (hr : (Region.ready .any ops listed).isEmpty = true) (h : E .normal Q n C fs) : V2 P ops Q n S listed k C fs := by
  intro a w hs hc hb
  have hr' := List.isEmpty_iff.1 hr
  cases k with
  | zero => exact ⟨hr', h a w hs hc⟩
  | succ k => exact ⟨fun _ => h a w hs hc, by rw [hr']; simp⟩
theorem W.drawn2 {id : Nat} {l : List Oper} (S : Array Bool → World → Prop) (hk : l.length = k) (hm : P.follows .mixedOrders = true) (hdrew : ∀ w, C w → C { w with drawn := w.drawn + 1 }) (hb : ∀ w, C w → S (Array.replicate k false) w)
    (h : V2 P l.toArray Q n S (Array.replicate k false) k C fs) : W P Q n C (.region id l.toArray true) fs := by
  subst hk
  exact fun a w hs hc => wp_region_noPanic (wp_region_any hm (wpAny_of_F _ _ _ _ (by simpa using h a _ hs (hdrew w hc) (hb _ (hdrew w hc)))))
end
end Go.S
