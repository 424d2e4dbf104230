/-
  Loops over a list: what they answer.
  Conditions: none.
-/
import Derived.Test.YtgkdimboofglfaaJ
namespace Go.S
set_option linter.unusedVariables false
set_option linter.unusedSimpArgs false
section
variable {α σ ρ : Type}
def orGo (o : Option (Option ρ)) (k : Option ρ) : Option ρ := match o with
  | some e => e
  | none => k
@[simp] theorem orGo_some (e k : Option ρ) : orGo (some e) k = e := rfl
@[simp] theorem orGo_none (k : Option ρ) : orGo none k = k := rfl
def sumGo (o : Option ρ ⊕ σ) (k : σ → Option ρ) : Option ρ := match o with
  | .inl e => e
  | .inr s => k s
@[simp] theorem sumGo_inl (e : Option ρ) (k : σ → Option ρ) : sumGo (.inl e) k = e := rfl
@[simp] theorem sumGo_inr (s : σ) (k : σ → Option ρ) : sumGo (.inr s) k = k s := rfl
/-- A walk along a list: each element lets it end, or go on. -/
def scanR (X : Nat → α → σ → Option ρ ⊕ σ) (E : σ → Option ρ) : Nat → List α → σ → Option ρ
  | _, [], s => E s
  | i, x :: l, s => match X i x s with
    | .inl e => e
    | .inr s' => scanR X E (i + 1) l s'
theorem scan {F : Nat → Int → σ → Option ρ} {l : List α} {X : Nat → α → σ → Option ρ ⊕ σ} {E : σ → Option ρ} (Inv : Nat → σ → Prop)
    (hend : ∀ n s, Inv l.length s → F (n + 1) (l.length : Nat) s = E s)
    (hstep : ∀ n i s (h : i < l.length), Inv i s → F (n + 1) (i : Nat) s = sumGo (X i l[i] s) fun s' => F n ((i + 1 : Nat) : Int) s')
    (hinv : ∀ i s s' (h : i < l.length), Inv i s → X i l[i] s = .inr s' → Inv (i + 1) s') :
    ∀ (r i : Nat), i + r = l.length → ∀ n s, r < n → Inv i s → F n (i : Nat) s = scanR X E i (l.drop i) s := by
  intro r
  induction r with
  | zero =>
    intro i hi n s hn hI
    obtain ⟨n, rfl⟩ := dec n hn
    obtain rfl : i = l.length := by omega
    rw [hend n s hI, List.drop_eq_nil_of_le (Nat.le_refl _)]
    rfl
  | succ r ih =>
    intro i hi n s hn hI
    obtain ⟨n, rfl⟩ := dec n (by omega)
    have h1 : i < l.length := by omega
    rw [hstep n i s h1 hI, drop_cons h1, scanR]
    cases hx : X i l[i] s with
    | inl e => rfl
    | inr s' => exact ih (i + 1) (by omega) n s' (by omega) (hinv i s s' h1 hI hx)
/-- Without a state. -/
def scanX (X : Nat → α → Option (Option ρ)) (E : Option ρ) : Nat → List α → Option ρ
  | _, [] => E
  | i, x :: l => match X i x with
    | some e => e
    | none => scanX X E (i + 1) l
theorem scan0 {F : Nat → Int → Option ρ} {l : List α} (X : Nat → α → Option (Option ρ)) (E : Option ρ)
    (hend : ∀ n, F (n + 1) (l.length : Nat) = E)
    (hstep : ∀ n i (h : i < l.length), F (n + 1) (i : Nat) = orGo (X i l[i]) (F n ((i + 1 : Nat) : Int))) :
    ∀ (r i : Nat), i + r = l.length → ∀ n, r < n → F n (i : Nat) = scanX X E i (l.drop i) := by
  intro r
  induction r with
  | zero =>
    intro i hi n hn
    obtain ⟨n, rfl⟩ := dec n hn
    obtain rfl : i = l.length := by omega
    rw [hend n, List.drop_eq_nil_of_le (Nat.le_refl _)]
    rfl
  | succ r ih =>
    intro i hi n hn
    obtain ⟨n, rfl⟩ := dec n (by omega)
    have h1 : i < l.length := by omega
    rw [hstep n i h1, drop_cons h1, scanX]
    cases hx : X i l[i] with
    | some e => rfl
    | none => exact ih (i + 1) (by omega) n (by omega)
/-- From the first element on. -/
theorem scan00 {F : Nat → Int → Option ρ} {l : List α} (hl : l.length ≤ 9223372036854775807) (X : Nat → α → Option (Option ρ)) (E : Option ρ)
    (hend : ∀ n, F (n + 1) (l.length : Nat) = E)
    (hstep : ∀ n i (h : i < l.length), F (n + 1) (i : Nat) = orGo (X i l[i]) (F n ((i + 1 : Nat) : Int))) : F big 0 = scanX X E 0 l :=
  scan0 X E hend hstep l.length 0 (by omega) big (lt_big (by omega))
theorem scanS0 {F : Nat → Int → σ → Option ρ} {l : List α} (hl : l.length ≤ 9223372036854775807) {X : Nat → α → σ → Option ρ ⊕ σ} {E : σ → Option ρ} (Inv : Nat → σ → Prop)
    (hend : ∀ n s, Inv l.length s → F (n + 1) (l.length : Nat) s = E s)
    (hstep : ∀ n i s (h : i < l.length), Inv i s → F (n + 1) (i : Nat) s = sumGo (X i l[i] s) fun s' => F n ((i + 1 : Nat) : Int) s')
    (hinv : ∀ i s s' (h : i < l.length), Inv i s → X i l[i] s = .inr s' → Inv (i + 1) s') (s : σ) (h0 : Inv 0 s) : F big 0 s = scanR X E 0 l s :=
  scan Inv hend hstep hinv l.length 0 (by omega) big s (lt_big (by omega)) h0
/-- The first element that is let go ends it. -/
theorem scanX_find (p : α → Bool) (f : α → ρ) (E : Option ρ) : ∀ (l : List α) (i : Nat), scanX (fun _ x => if p x = true then some (some (f x)) else none) E i l = match l.find? p with | some x => some (f x) | none => E
  | [], i => rfl
  | x :: l, i => by
    rw [scanX, List.find?_cons]
    cases h : p x with
    | true => simp
    | false => simp [scanX_find p f E l (i + 1)]
theorem scanX_any (p : α → Bool) (z : Option ρ) (E : Option ρ) : ∀ (l : List α) (i : Nat), scanX (fun _ x => if p x = true then some z else none) E i l = if l.any p = true then z else E
  | [], i => by simp [scanX]
  | x :: l, i => by
    rw [scanX]
    cases h : p x with
    | true => simp [h]
    | false => simp [h, scanX_any p z E l (i + 1)]
end
end Go.S
