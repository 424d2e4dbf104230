/-
  The words of the printed models, and the laws that carry a model's answer along a walk.
  Conditions: none.
-/
import Derived.Test.YtdebhhjbgbkbjaaR
namespace Go.S
/-! ### Words -/
/-- Rounds enough for every loop. -/
def big : Nat := 1180591620717411303424
theorem big_eq : big = 1180591620717411303424 := rfl
def i64 (x : Int) : Option Int := if -9223372036854775808 ≤ x ∧ x ≤ 9223372036854775807 then some x else none
def idx {α : Type} (l : List α) (i : Int) : Option α := if 0 ≤ i then l[i.toNat]? else none
def idxS (l : List UInt8) (i : Int) : Option Int := if 0 ≤ i then (l[i.toNat]?).map fun b => (b.toNat : Int) else none
def upd {α : Type} (l : List α) (i : Int) (x : α) : Option (List α) := if 0 ≤ i ∧ i < l.length then some (l.set i.toNat x) else none
def cut {α : Type} (l : List α) (a b : Int) : Option (List α) := if 0 ≤ a ∧ a ≤ b ∧ b ≤ l.length then some ((l.take b.toNat).drop a.toNat) else none
def app {α : Type} (l m : List α) : Option (List α) := if l.length + m.length ≤ 2513169434916 then some (l ++ m) else none
def catS (l m : List UInt8) : Option (List UInt8) := if l.length + m.length ≤ 9223372036854775807 then some (l ++ m) else none
def mk {α : Type} (n : Int) (z : α) : Option (List α) := if 0 ≤ n ∧ n ≤ 1000000 then some (List.replicate n.toNat z) else none
def bind1 {α ρ : Type} (o : Option α) (f : α → Option ρ) : Option ρ := match o with
  | some x => f x
  | none => none
def bind2 {α β ρ : Type} (o : Option (α × β)) (f : α → β → Option ρ) : Option ρ := match o with
  | some (x, y) => f x y
  | none => none
def bind3 {α β γ ρ : Type} (o : Option (α × β × γ)) (f : α → β → γ → Option ρ) : Option ρ := match o with
  | some (x, y, z) => f x y z
  | none => none
@[simp] theorem bind1_some {α ρ : Type} (x : α) (f : α → Option ρ) : bind1 (some x) f = f x := rfl
@[simp] theorem bind1_none {α ρ : Type} (f : α → Option ρ) : bind1 none f = none := rfl
@[simp] theorem bind2_some {α β ρ : Type} (x : α) (y : β) (f : α → β → Option ρ) : bind2 (some (x, y)) f = f x y := rfl
@[simp] theorem bind3_some {α β γ ρ : Type} (x : α) (y : β) (z : γ) (f : α → β → γ → Option ρ) : bind3 (some (x, y, z)) f = f x y z := rfl
theorem bind1S {α ρ : Type} {o : Option α} {f : α → Option ρ} {r : ρ} (h : bind1 o f = some r) : ∃ x, o = some x ∧ f x = some r := by
  cases o with
  | none => cases h
  | some x => exact ⟨x, rfl, h⟩
theorem bind2S {α β ρ : Type} {o : Option (α × β)} {f : α → β → Option ρ} {r : ρ} (h : bind2 o f = some r) : ∃ x y, o = some (x, y) ∧ f x y = some r := by
  cases o with
  | none => cases h
  | some p => exact ⟨p.1, p.2, rfl, h⟩
theorem bind3S {α β γ ρ : Type} {o : Option (α × β × γ)} {f : α → β → γ → Option ρ} {r : ρ} (h : bind3 o f = some r) : ∃ x y z, o = some (x, y, z) ∧ f x y z = some r := by
  cases o with
  | none => cases h
  | some p => exact ⟨p.1, p.2.1, p.2.2, rfl, h⟩
theorem iteT {ρ : Type} {A B : Option ρ} {r : ρ} (h : (if true = true then A else B) = some r) : A = some r := h
theorem iteF {ρ : Type} {A B : Option ρ} {r : ρ} (h : (if false = true then A else B) = some r) : B = some r := by simpa using h

/-! ### When the words answer -/
theorem i64_some {x y : Int} (h : i64 x = some y) : y = x ∧ -9223372036854775808 ≤ x ∧ x ≤ 9223372036854775807 := by
  unfold i64 at h
  split at h
  · simp only [Option.some.injEq] at h; exact ⟨h.symm, by assumption⟩
  · cases h
theorem i64_ok {x : Int} (h0 : -9223372036854775808 ≤ x) (h1 : x ≤ 9223372036854775807) : i64 x = some x := if_pos ⟨h0, h1⟩
theorem idx_some {α : Type} {l : List α} {i : Int} {x : α} (h : idx l i = some x) : 0 ≤ i ∧ i < l.length ∧ l[i.toNat]? = some x := by
  unfold idx at h
  split at h
  · have := (List.getElem?_eq_some_iff.1 h).1
    exact ⟨by assumption, by omega, h⟩
  · cases h
theorem idx_map {α : Type} {f : α → List Value} {l : List α} {i : Int} {x : α} (h : idx l i = some x) : (l.map f)[i.toNat]? = some (f x) := map_get (idx_some h).2.2
theorem idx_nat {α : Type} (l : List α) (i : Nat) : idx l (i : Int) = l[i]? := by simp [idx]
theorem upd_some {α : Type} {l l' : List α} {i : Int} {x : α} (h : upd l i x = some l') : 0 ≤ i ∧ i < l.length ∧ l' = l.set i.toNat x := by
  unfold upd at h
  split at h
  · rename_i hc; simp only [Option.some.injEq] at h; exact ⟨hc.1, hc.2, h.symm⟩
  · cases h
theorem cut_some {α : Type} {l l' : List α} {a b : Int} (h : cut l a b = some l') : 0 ≤ a ∧ a ≤ b ∧ b ≤ l.length ∧ l' = (l.take b.toNat).drop a.toNat := by
  unfold cut at h
  split at h
  · rename_i hc; simp only [Option.some.injEq] at h; exact ⟨hc.1, hc.2.1, hc.2.2, h.symm⟩
  · cases h
theorem app_some {α : Type} {l m l' : List α} (h : app l m = some l') : l' = l ++ m ∧ l.length + m.length ≤ 2513169434916 := by
  unfold app at h
  split at h
  · simp only [Option.some.injEq] at h; exact ⟨h.symm, by assumption⟩
  · cases h
/-! ### Laws that carry the answer -/
section
variable {P : Program} {Q : Exit → Act → World → Prop} {n : Nat} {C : World → Prop} {fs : Fr} {ops : Array Oper} {rest : List Oper} {d : Nat} {op : Op} {t : TypeId} {pos : String} {af : Array Edge}
variable {α ρ : Type} {r : ρ}
theorem L.m {o : Option α} {f : α → Option ρ} {V : α → Value} (h : bind1 o f = some r) (hd : Nat.blt d n = true) (hy : ∀ x, o = some x → Y P op t n fs C (V x)) (k : ∀ x, o = some x → f x = some r → L P ops Q n C rest ((d, V x) :: fs)) :
    L P ops Q n C (⟨some d, op, t, pos, af, none⟩ :: rest) fs := by
  obtain ⟨x, hx, h⟩ := bind1S h
  exact L.y hd (hy x hx) (k x hx h)
theorem U.m {o : Option α} {f : α → Option ρ} {V : α → Value} (h : bind1 o f = some r) (hd : Nat.blt d n = true) (hy : ∀ x, o = some x → Y P op t n fs C (V x)) (k : ∀ x, o = some x → f x = some r → U P ops Q n C rest ((d, V x) :: fs)) :
    U P ops Q n C (⟨some d, op, t, pos, af, none⟩ :: rest) fs := by
  obtain ⟨x, hx, h⟩ := bind1S h
  exact U.y hd (hy x hx) (k x hx h)
theorem L.ite {p : Prop} [Decidable p] {A B : Option ρ} (h : (if p then A else B) = some r) (hd : Nat.blt d n = true) (hy : Y P op t n fs C (.bool (decide p))) (k1 : p → A = some r → L P ops Q n C rest ((d, .bool true) :: fs)) (k2 : ¬p → B = some r → L P ops Q n C rest ((d, .bool false) :: fs)) :
    L P ops Q n C (⟨some d, op, t, pos, af, none⟩ :: rest) fs :=
  L.split hd hy (fun hp => k1 hp (by rwa [if_pos hp] at h)) (fun hp => k2 hp (by rwa [if_neg hp] at h))
theorem U.ite {p : Prop} [Decidable p] {A B : Option ρ} (h : (if p then A else B) = some r) (hd : Nat.blt d n = true) (hy : Y P op t n fs C (.bool (decide p))) (k1 : p → A = some r → U P ops Q n C rest ((d, .bool true) :: fs)) (k2 : ¬p → B = some r → U P ops Q n C rest ((d, .bool false) :: fs)) :
    U P ops Q n C (⟨some d, op, t, pos, af, none⟩ :: rest) fs :=
  U.split hd hy (fun hp => k1 hp (by rwa [if_pos hp] at h)) (fun hp => k2 hp (by rwa [if_neg hp] at h))
theorem L.iteB {b : Bool} {A B : Option ρ} (h : (if b = true then A else B) = some r) (hd : Nat.blt d n = true) (hy : Y P op t n fs C (.bool b)) (k1 : b = true → A = some r → L P ops Q n C rest ((d, .bool true) :: fs)) (k2 : ¬b = true → B = some r → L P ops Q n C rest ((d, .bool false) :: fs)) :
    L P ops Q n C (⟨some d, op, t, pos, af, none⟩ :: rest) fs :=
  L.splitB hd hy (fun hp => k1 hp (by rwa [if_pos hp] at h)) (fun hp => k2 (by simp [hp]) (by rwa [if_neg (by simp [hp])] at h))
theorem U.iteB {b : Bool} {A B : Option ρ} (h : (if b = true then A else B) = some r) (hd : Nat.blt d n = true) (hy : Y P op t n fs C (.bool b)) (k1 : b = true → A = some r → U P ops Q n C rest ((d, .bool true) :: fs)) (k2 : ¬b = true → B = some r → U P ops Q n C rest ((d, .bool false) :: fs)) :
    U P ops Q n C (⟨some d, op, t, pos, af, none⟩ :: rest) fs :=
  U.splitB hd hy (fun hp => k1 hp (by rwa [if_pos hp] at h)) (fun hp => k2 (by simp [hp]) (by rwa [if_neg (by simp [hp])] at h))

/-- A round's end; a join. -/
def KL (Q : Exit → Act → World → Prop) (n : Nat) (J : Nat → Fr → (World → Prop) → Prop) (m : Nat) : Exit → Act → World → Prop :=
  Exit.then (fun a w => ∃ m' gs' D', J m' gs' D' ∧ m' < m ∧ Slots n gs' a ∧ D' w) Q
def KS (Q : Exit → Act → World → Prop) (n : Nat) (J : Fr → (World → Prop) → Prop) : Exit → Act → World → Prop :=
  Exit.then (fun a w => ∃ gs' D', J gs' D' ∧ Slots n gs' a ∧ D' w) Q
theorem W.loopJ {c : Code} (J : Nat → Fr → (World → Prop) → Prop) {m0 : Nat} {gs : Fr} {D : World → Prop} (h0 : J m0 gs D) (hF : Sub gs fs) (hD : ∀ w, C w → D w)
    (round : ∀ m gs D, J m gs D → W P (KL Q n J m) n D c gs) : W P Q n C (.loop c) fs :=
  W.loop (X := Nat × Fr × (World → Prop)) (fun p => p.2.1) (fun p => p.2.2) (fun p => J p.1 p.2.1 p.2.2) (fun p => p.1) (m0, gs, D) h0 hF hD fun p hp a w hs hc =>
    Code.wp_mono (fun e a w h => by
      cases e with
      | normal => obtain ⟨m', gs', D', h1, h2, h3, h4⟩ := h; exact ⟨(m', gs', D'), h1, h2, h3, h4⟩
      | _ => exact h) (round p.1 p.2.1 p.2.2 hp a w hs hc)
theorem W.seqJ {x y : Code} (J : Fr → (World → Prop) → Prop) (h1 : W P (KS Q n J) n C x fs) (h2 : ∀ gs D, J gs D → W P Q n D y gs) : W P Q n C (.seq x y) fs :=
  W.seq fun a w hs hc => Code.wp_mono (fun e a w h => by
      cases e with
      | normal => obtain ⟨gs', D', h3, h4, h5⟩ := h; exact h2 gs' D' h3 a w h4 h5
      | _ => exact h) (h1 a w hs hc)
theorem E.againJ {J : Nat → Fr → (World → Prop) → Prop} {m m' : Nat} {gs : Fr} {D : World → Prop} (h : J m' gs D) (hm : m' < m) (hF : Sub gs fs) (hD : ∀ w, C w → D w) : E .normal (KL Q n J m) n C fs :=
  fun _ w hs hc => ⟨m', gs, D, h, hm, hs.sub hF, hD w hc⟩
theorem E.joinJ {J : Fr → (World → Prop) → Prop} {gs : Fr} {D : World → Prop} (h : J gs D) (hF : Sub gs fs) (hD : ∀ w, C w → D w) : E .normal (KS Q n J) n C fs :=
  fun _ w hs hc => ⟨gs, D, h, hs.sub hF, hD w hc⟩
theorem E.KLX {J : Nat → Fr → (World → Prop) → Prop} {m id : Nat} (h : E (.exit id) Q n C fs) : E (.exit id) (KL Q n J m) n C fs := h
theorem E.KLR {J : Nat → Fr → (World → Prop) → Prop} {m : Nat} (h : E .ret Q n C fs) : E .ret (KL Q n J m) n C fs := h
theorem E.KSX {J : Fr → (World → Prop) → Prop} {id : Nat} (h : E (.exit id) Q n C fs) : E (.exit id) (KS Q n J) n C fs := h
theorem E.KSR {J : Fr → (World → Prop) → Prop} (h : E .ret Q n C fs) : E .ret (KS Q n J) n C fs := h

/-- Some of what is held, in another order. -/
theorem erase_perm {β : Type} : ∀ (l : List β) (i : Nat) (x : β), l[i]? = some x → l.Perm (x :: l.eraseIdx i)
  | [], i, x, h => by simp at h
  | y :: l, 0, x, h => by
    simp only [List.getElem?_cons_zero, Option.some.injEq] at h
    subst h; exact List.Perm.refl _
  | y :: l, i + 1, x, h => by
    rw [List.eraseIdx_cons_succ]
    exact (List.Perm.cons y (erase_perm l i x (by simpa using h))).trans (List.Perm.swap x y _)
theorem nodup_map_get {β : Type} : ∀ (n : Nat) {l : List β} {is : List Nat} {m' : List β}, is.length = n → is.Nodup → is.map (l[·]?) = m'.map some → ∃ rest, l.Perm (m' ++ rest) := by
  intro n
  induction n with
  | zero =>
    intro l is m' hlen _ hm
    obtain rfl := List.length_eq_zero_iff.1 hlen
    cases m' with
    | nil => exact ⟨l, by simp⟩
    | cons x m' => simp at hm
  | succ n ih =>
    intro l is m' hlen hn hm
    cases is with
    | nil => simp at hlen
    | cons i is =>
    cases m' with
    | nil => simp at hm
    | cons x m' =>
      simp only [List.map_cons, List.cons.injEq] at hm
      obtain ⟨hi, hm⟩ := hm
      obtain ⟨hlt, hx⟩ := List.getElem?_eq_some_iff.1 hi
      rw [List.nodup_cons] at hn
      have key : (is.map fun j => if j < i then j else j - 1).map ((l.eraseIdx i)[·]?) = m'.map some := by
        rw [← hm, List.map_map]
        apply List.map_congr_left
        intro j hj
        have hne : j ≠ i := fun h => hn.1 (h ▸ hj)
        simp only [Function.comp]
        by_cases hji : j < i
        · rw [if_pos hji, List.getElem?_eraseIdx_of_lt hji]
        · rw [if_neg hji, List.getElem?_eraseIdx_of_ge (by omega), show j - 1 + 1 = j by omega]
      have hn' : (is.map fun j => if j < i then j else j - 1).Nodup := by
        rw [List.Nodup, List.pairwise_map]
        refine hn.2.imp_of_mem ?_
        intro a b ha hb hab
        have ha' : a ≠ i := fun h => hn.1 (h ▸ ha)
        have hb' : b ≠ i := fun h => hn.1 (h ▸ hb)
        split <;> split <;> omega
      obtain ⟨rest, hp⟩ := ih (by simpa using hlen) hn' key
      refine ⟨rest, ?_⟩
      exact (erase_perm l i x hi).trans (List.Perm.cons x hp)
theorem Cls.sel {w0 w : World} {own : List Nat} {m m' : List As} (is : List Nat) (h : Cls w0 own m w) (hn : is.Nodup) (hm : is.map (m[·]?) = m'.map some) : Cls w0 own m' w := by
  obtain ⟨rest, hp⟩ := nodup_map_get _ rfl hn hm
  exact (h.perm hp.symm).sublist (List.sublist_append_left _ _)

/-! ### Operations by the models' words -/
variable {x y z : Operand} {a b : Int} {tx ty : TypeId}
theorem Y.addM (hx : val fs x = some (.int .i64 a)) (hy : val fs y = some (.int .i64 b)) (u : Int) (h : i64 (a + b) = some u) : Y P (.binOp .add tx x y ty) t n fs C (.int .i64 u) := by
  obtain ⟨rfl, h0, h1⟩ := i64_some h
  exact Y.add hx hy (i64_in h0 h1)
theorem Y.subM (hx : val fs x = some (.int .i64 a)) (hy : val fs y = some (.int .i64 b)) (u : Int) (h : i64 (a - b) = some u) : Y P (.binOp .sub tx x y ty) t n fs C (.int .i64 u) := by
  obtain ⟨rfl, h0, h1⟩ := i64_some h
  exact Y.sub hx hy (i64_in h0 h1)
theorem Y.lenM {α : Type} {g : α → List Value} {v : Value} {k : Nat} {l : List α} {e : TypeId} (hu : P.underlying tx = some (.slice e)) (hx : val fs x = some v) (hA : ∀ w, C w → At w v k (l.map g)) : Y P (.call ⟨.builtin .len, #[x], #[tx]⟩) t n fs C (.int .i64 l.length) := by
  have := Y.lenA (t := t) (n := n) hu hx hA
  rwa [List.length_map] at this
theorem Y.indexM {α : Type} {g : α → List Value} {v : Value} {k : Nat} {l : List α} {ik : IntKind} {e : TypeId} (hu : P.underlying tx = some (.slice e)) (hsz : szB P e k = true) (hx : val fs x = some v) (hy : val fs y = some (.int ik a)) (hA : ∀ w, C w → At w v k (l.map g)) (u : α) (h : idx l a = some u) :
    Y P (.indexAddr tx x y) t n fs C (el v (a.toNat * k)) := by
  obtain ⟨h0, h1, _⟩ := idx_some h
  exact Y.indexE hu hsz hx hy hA h0 (by rwa [List.length_map])
end
end Go.S
