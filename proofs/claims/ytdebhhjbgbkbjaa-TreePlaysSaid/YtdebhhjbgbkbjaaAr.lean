/-
  Things that pointers lead to: all things of one type lie in a row, a pointer is a place in it; a thing is opened to be worked on, and shut.
  Conditions: none.
-/
import Derived.Test.YtdebhhjbgbkbjaaFp
import Derived.Test.YtdebhhjbgbkbjaaPt
import Derived.Test.YtdebhhjbgbkbjaaMq
namespace Go.S
set_option linter.unusedVariables false
set_option linter.unusedSimpArgs false
/-- A pointer to the thing at a place; below zero: nil. -/
def VP (g : Nat → Nat) (i : Int) : Value := if i < 0 then .pointer none else pt (g i.toNat) 0
def PR (g : Nat → Nat) (i : Int) : List Value := [VP g i]
def emp : As := .ss []
/-- All of these. -/
def allR (L : List As) : Res where
  foot := L.flatMap As.foot
  holds := fun w => ∀ x ∈ L, x.holds w
  congr := fun h hb x hx => As.holds_congr (h x hx) fun b hbx => hb b (List.mem_flatMap.2 ⟨x, hx, hbx⟩)
  lt := fun h b hb => by
    obtain ⟨x, hx, hbx⟩ := List.mem_flatMap.1 hb
    exact As.holds_lt (h x hx) b hbx
section lists
variable {α : Type} {row row' : α → List Value → List Value} {e : TypeId} {sub sub' : α → List Value → List As}
def thg (row : α → List Value → List Value) (sub : α → List Value → List As) (e : TypeId) (b : Nat) (v : List Value) (x : α) : List As := .obj b (row x v) e :: sub x v
def zT (row : α → List Value → List Value) (sub : α → List Value → List As) (e : TypeId) : (Nat → Nat) → (Nat → List Value) → List α → List As
  | _, _, [] => []
  | g, gh, x :: l => .any (allR (thg row sub e (g 0) (gh 0) x)) :: zT row sub e (fun i => g (i + 1)) (fun i => gh (i + 1)) l
def hol (hs : List Nat) (L : List As) : List As := (List.range L.length).map fun i => if i ∈ hs then emp else (L[i]?).getD emp
/-- All things of a type but those that are open. -/
def arn (row : α → List Value → List Value) (sub : α → List Value → List As) (e : TypeId) (g : Nat → Nat) (gh : Nat → List Value) (l : List α) (hs : List Nat) : As := .any (allR (hol hs (zT row sub e g gh l)))
theorem zT_length : ∀ (g : Nat → Nat) (gh : Nat → List Value) (l : List α), (zT row sub e g gh l).length = l.length
  | _, _, [] => rfl
  | g, gh, x :: l => by simp [zT, zT_length _ _ l]
theorem zT_get : ∀ (g : Nat → Nat) (gh : Nat → List Value) (l : List α) (i : Nat) (x : α), l[i]? = some x → (zT row sub e g gh l)[i]? = some (.any (allR (thg row sub e (g i) (gh i) x)))
  | _, _, [], i, x, h => by simp at h
  | g, gh, y :: l, 0, x, h => by
    simp only [List.getElem?_cons_zero, Option.some.injEq] at h
    subst h
    simp [zT]
  | g, gh, y :: l, i + 1, x, h => by
    simp only [List.getElem?_cons_succ] at h
    simpa [zT] using zT_get (fun i => g (i + 1)) (fun i => gh (i + 1)) l i x h
theorem zT_set : ∀ (g : Nat → Nat) (gh : Nat → List Value) (l : List α) (i : Nat) (y : α) (v : List Value), zT row sub e g (gset gh i v) (l.set i y) = (zT row sub e g gh l).set i (.any (allR (thg row sub e (g i) v y)))
  | _, _, [], _, _, _ => rfl
  | g, gh, x :: l, 0, y, v => by
    simp only [List.set_cons_zero, zT]
    have h1 : gset gh 0 v 0 = v := by simp [gset]
    have h2 : (fun i => gset gh 0 v (i + 1)) = fun i => gh (i + 1) := by funext i; simp [gset]
    rw [h1, h2]
  | g, gh, x :: l, i + 1, y, v => by
    simp only [List.set_cons_succ, zT]
    have h1 : gset gh (i + 1) v 0 = gh 0 := by simp [gset]
    have h2 : (fun j => gset gh (i + 1) v (j + 1)) = gset (fun j => gh (j + 1)) i v := by funext j; simp [gset]
    rw [h1, h2, zT_set]
theorem gset_self (gh : Nat → List Value) (i : Nat) : gset gh i (gh i) = gh := by
  funext q
  unfold gset
  split
  · rename_i h; rw [h]
  · rfl
theorem zT_app : ∀ (g : Nat → Nat) (gh : Nat → List Value) (b : Nat) (v : List Value) (l : List α) (x : α), zT row sub e (gput g l.length b) (gapp gh (fun _ => v) l.length) (l ++ [x]) = zT row sub e g gh l ++ [.any (allR (thg row sub e b v x))]
  | g, gh, b, v, [], x => by simp [zT, gput_0, gapp_0]
  | g, gh, b, v, y :: l, x => by
    rw [List.cons_append, List.length_cons, zT, gput_s, gput_ss, gapp_s, gapp_ss, zT_app _ _ b v l x]
    rfl
theorem zT_congr : ∀ (g : Nat → Nat) (gh : Nat → List Value) (l : List α), (∀ x ∈ l, ∀ v, row x v = row' x v ∧ sub x v = sub' x v) → zT row sub e g gh l = zT row' sub' e g gh l
  | _, _, [], _ => rfl
  | g, gh, x :: l, h => by
    have h1 := h x List.mem_cons_self (gh 0)
    rw [zT, zT, thg, thg, h1.1, h1.2, zT_congr _ _ l fun z hz => h z (List.mem_cons_of_mem _ hz)]
theorem hol_get (hs : List Nat) (L : List As) (i : Nat) : (hol hs L)[i]? = if i < L.length then some (if i ∈ hs then emp else (L[i]?).getD emp) else none := by
  unfold hol
  by_cases c : i < L.length
  · rw [List.getElem?_map, List.getElem?_range c, if_pos c]; rfl
  · rw [List.getElem?_eq_none (by simp; omega), if_neg c]
theorem hol_length (hs : List Nat) (L : List As) : (hol hs L).length = L.length := by simp [hol]
theorem hol_nil (L : List As) : hol [] L = L := by
  apply List.ext_getElem?
  intro i
  rw [hol_get]
  by_cases c : i < L.length
  · rw [if_pos c, if_neg (by simp), List.getElem?_eq_getElem c]; rfl
  · rw [if_neg c, List.getElem?_eq_none (by omega)]
theorem hol_at {hs : List Nat} {L : List As} {i : Nat} {A : As} (h : L[i]? = some A) (hn : i ∉ hs) : (hol hs L)[i]? = some A := by
  rw [hol_get, if_pos (List.getElem?_eq_some_iff.1 h).1, if_neg hn, h]; rfl
theorem hol_out {hs hs' : List Nat} {L : List As} {i : Nat} (h : ∀ q, q ∈ hs' ↔ q = i ∨ q ∈ hs) : (hol hs L).set i emp = hol hs' L := by
  apply List.ext_getElem?
  intro q
  rw [List.getElem?_set, hol_get, hol_get, hol_length]
  by_cases c : i = q
  · subst c
    by_cases c2 : i < L.length
    · rw [if_pos rfl, if_pos c2, if_pos c2, if_pos ((h i).2 (.inl rfl))]
    · rw [if_pos rfl, if_neg c2, if_neg c2]
  · rw [if_neg c]
    by_cases c2 : q < L.length
    · rw [if_pos c2, if_pos c2]
      by_cases c3 : q ∈ hs
      · rw [if_pos c3, if_pos ((h q).2 (.inr c3))]
      · rw [if_neg c3, if_neg fun h' => ((h q).1 h').elim (fun e => c e.symm) c3]
    · rw [if_neg c2, if_neg c2]
theorem hol_in {hs hs' : List Nat} {L : List As} {i : Nat} {A : As} (h : ∀ q, q ∈ hs' ↔ q = i ∨ q ∈ hs) (hn : i ∉ hs) : (hol hs' L).set i A = hol hs (L.set i A) := by
  apply List.ext_getElem?
  intro q
  rw [List.getElem?_set, hol_get, hol_get, hol_length, List.length_set, List.getElem?_set]
  by_cases c : i = q
  · subst c
    by_cases c2 : i < L.length
    · simp [c2, hn]
    · rw [if_pos rfl, if_neg c2, if_neg c2]
  · rw [if_neg c, if_neg c]
    by_cases c2 : q < L.length
    · rw [if_pos c2, if_pos c2]
      by_cases c3 : q ∈ hs
      · rw [if_pos c3, if_pos ((h q).2 (.inr c3))]
      · rw [if_neg c3, if_neg fun h' => ((h q).1 h').elim (fun e => c e.symm) c3]
    · rw [if_neg c2, if_neg c2]
theorem hol_app {hs : List Nat} {L : List As} {A : As} (h : ∀ i ∈ hs, i < L.length) : hol hs (L ++ [A]) = hol hs L ++ [A] := by
  apply List.ext_getElem?
  intro q
  have hl := hol_length hs L
  rw [hol_get, List.length_append, List.length_singleton]
  by_cases c : q < L.length
  · rw [if_pos (by omega), List.getElem?_append_left c, List.getElem?_append_left (by omega), hol_get, if_pos c]
  · rw [List.getElem?_append_right (l₁ := hol hs L) (by omega), hl]
    by_cases c2 : q = L.length
    · subst c2
      rw [if_pos (by omega), if_neg fun hq => absurd (h _ hq) (by omega), List.getElem?_append_right (Nat.le_refl _), Nat.sub_self]; rfl
    · rw [if_neg (by omega), List.getElem?_eq_none (by simp; omega)]
end lists
/-- The places are what they were, and perhaps more. -/
def Gr (g : Nat → Nat) (n : Nat) (g' : Nat → Nat) (n' : Nat) : Prop := n ≤ n' ∧ ∀ i, i < n → g' i = g i
theorem Gr.refl (g : Nat → Nat) (n : Nat) : Gr g n g n := ⟨Nat.le_refl _, fun _ _ => rfl⟩
theorem Gr.trans {g g' g2 : Nat → Nat} {n n' n2 : Nat} (h : Gr g n g' n') (h' : Gr g' n' g2 n2) : Gr g n g2 n2 := ⟨Nat.le_trans h.1 h'.1, fun i hi => (h'.2 i (Nat.lt_of_lt_of_le hi h.1)).trans (h.2 i hi)⟩
theorem Gr.upd {α : Type} {g g' : Nat → Nat} {n : Nat} {l z : List α} {a : Int} {x : α} (h : Gr g n g' l.length) (hu : upd l a x = some z) : Gr g n g' z.length := by
  rw [(upd_some hu).2.2, List.length_set]; exact h
theorem VP_up {g g' : Nat → Nat} {n n' : Nat} {x : Int} (h : Gr g n g' n') (hx : x < n) : VP g x = VP g' x := by
  unfold VP
  split
  · rfl
  · rw [h.2 _ (by omega)]
theorem PR_up {g g' : Nat → Nat} {n n' : Nat} {l : List Int} (h : Gr g n g' n') (hx : ∀ x ∈ l, x < n) : l.map (PR g) = l.map (PR g') := List.map_congr_left fun x hm => by rw [PR, PR, VP_up h (hx x hm)]
theorem idx_app1 {α : Type} {l : List α} {x : α} {q : Int} {u : α} (h : idx l q = some u) : idx (l ++ [x]) q = some u := by
  obtain ⟨h0, h1, h2⟩ := idx_some h
  unfold idx
  rw [if_pos h0, List.getElem?_append_left (by omega), h2]
theorem idx_upd_ne {α : Type} {l z : List α} {a b : Int} {u y : α} (hu : upd l b y = some z) (hne : a ≠ b) (h : idx l a = some u) : idx z a = some u := by
  obtain ⟨h0, h1, h2⟩ := idx_some h
  obtain ⟨h3, h4, rfl⟩ := upd_some hu
  unfold idx
  rw [if_pos h0, List.getElem?_set_ne (by omega), h2]
/-- What the model asks. -/
def ck (p : Prop) [Decidable p] : Option Unit := if p then some () else none
theorem ck_some {p : Prop} [Decidable p] {u : Unit} (h : ck p = some u) : p := by
  unfold ck at h
  split at h
  · assumption
  · cases h
@[simp] theorem ck_pos {p : Prop} [Decidable p] (h : p) : ck p = some () := if_pos h
/-- One thing more, and where it is. -/
def newA {α : Type} (l : List α) (x : α) : Option (Int × List α) := some ((l.length : Int), l ++ [x])
theorem plain_P {g : Nat → Nat} (l : List Int) : Plain (l.map (PR g)) := by
  intro r hr u hu
  obtain ⟨x, _, rfl⟩ := List.mem_map.1 hr
  simp only [PR, List.mem_singleton] at hu
  subst hu
  unfold VP
  split <;> rfl
theorem VP_cases (g : Nat → Nat) (i : Int) : VP g i = .pointer none ∨ ∃ ad, VP g i = .pointer (some ad) := by
  unfold VP
  split
  · exact .inl rfl
  · exact .inr ⟨_, rfl⟩
theorem VP_one (g : Nat → Nat) (i : Int) : (VP g i).oneCell' = true := by unfold VP; split <;> rfl
theorem VP_cells (g : Nat → Nat) (i : Int) : (VP g i).cells = #[VP g i] := by unfold VP; split <;> rfl
section
variable {P : Program} {Q : Exit → Act → World → Prop} {n : Nat} {C : World → Prop} {fs : Fr} {t : TypeId} {ops : Array Oper} {rest : List Oper} {d : Nat} {pos : String} {af : Array Edge}
variable {w0 w w' : World} {own : List Nat} {m m' : List As} {x y z : Operand} {e te tx ty : TypeId} {i j k kk q p s c jj jc o : Nat} {v u V : Value} {b : Nat}
variable {α ρ : Type} {r : ρ} {row : α → List Value → List Value} {sub : α → List Value → List As} {g : Nat → Nat} {gh : Nat → List Value} {l : List α} {a : Int} {u0 u1 : α} {f : List α → Option ρ} {hs hs' : List Nat}
theorem VP_pt (h : 0 ≤ a) : VP g a = pt (g a.toNat) 0 := if_neg (by omega)
/-! ### Pointers -/
theorem Y.apNil (hx : val fs x = some (VP g a)) (h : idx l a = some u0) : Y P (.nilCheck x) t n fs C (pt (g a.toNat) 0) := by
  rw [VP_pt (idx_some h).1] at hx
  exact Y.nilCheck hx
theorem V2.apNil {ops : Array Oper} {S : Array Bool → World → Prop} {C Z : World → Prop} {listed : Array Bool} {g0 : Option (Nat × Bool)} (hn : Nx2 ops S Z listed i ⟨some d, .nilCheck x, t, pos, af, g0⟩) (hg : wantB ops fs g0 = true) (hd : Nat.blt d n = true) (hx : val fs x = some (VP g a)) (h : idx l a = some u0)
    (next : V2 P ops Q n S (listed.setIfInBounds i true) k C ((d, pt (g a.toNat) 0) :: fs)) : V2 P ops Q n S listed (k + 1) C fs := by
  rw [VP_pt (idx_some h).1] at hx
  exact V2.nilc hn hg hd hx next
theorem Y.eqlAN {e : TypeId} (hu : P.underlying tx = some (.pointer e)) (hx : val fs x = some (VP g a)) (hy : val fs y = some (.pointer none)) : Y P (.binOp .eql tx x y ty) t n fs C (.bool (decide (a < 0))) := by
  by_cases c : a < 0
  · have h1 : VP g a = .pointer none := if_pos c
    rw [h1] at hx
    rw [decide_eq_true c]
    exact Y.eqlP (p := none) hu hx hy
  · rw [VP_pt (by omega)] at hx
    rw [decide_eq_false c]
    exact Y.eqlP (p := some ⟨g a.toNat, 0, none⟩) hu hx hy
/-! ### Shorter words for what the printer writes -/
theorem Zc.on' {r : List (List Nat)} {q : List (World → Prop)} {B D Z : World → Prop} {bs bz : List Nat} (h2 : ∀ (L : Array Bool) w, stOpen bz L = true → stC r q D L w → Z w) (h : ∀ w, B w → Z w) : ∀ (L : Array Bool) w, stOpen bz L = true → stC (bs :: r) (B :: q) D L w → Z w := Zc.on h h2
theorem V2.zz {ops : Array Oper} {S : Array Bool → World → Prop} {C Z : World → Prop} {listed : Array Bool} (bz : List Nat) (hz : ∀ (L : Array Bool) w, stOpen bz L = true → S L w → Z w) (next : (∀ (L : Array Bool) w, stOpen bz L = true → S L w → Z w) → V2 P ops Q n S listed k C fs) : V2 P ops Q n S listed k C fs := next hz
/-! ### One thing in hand -/
theorem set_flat {L : List As} {A : As} {K : Nat} (h : L[K]? = some A) : ((A :: L.set K emp).flatMap As.foot).Perm (L.flatMap As.foot) := by
  induction L generalizing K with
  | nil => simp at h
  | cons z L ih =>
    cases K with
    | zero =>
      simp only [List.getElem?_cons_zero, Option.some.injEq] at h
      subst h
      simp [emp, As.foot]
    | succ K =>
      simp only [List.getElem?_cons_succ] at h
      have := ih h
      rw [List.set_cons_succ]
      simp only [List.flatMap_cons] at this ⊢
      refine List.Perm.trans ?_ (List.Perm.append_left _ this)
      rw [← List.append_assoc, ← List.append_assoc]
      exact List.Perm.append_right _ List.perm_append_comm
theorem emp_holds (w : World) : emp.holds w := fun d hd => by cases hd
theorem Cls.out {L : List As} {A : As} {K : Nat} (hw : Cls w0 own (.any (allR L) :: m) w) (hK : L[K]? = some A) : Cls w0 own (A :: .any (allR (L.set K emp)) :: m) w := by
  have hall : ∀ x ∈ L, x.holds w := (hw.mine _ List.mem_cons_self).1
  refine hw.rePerm ?_ fun x hx => ?_
  · simp only [List.flatMap_cons]
    rw [← List.append_assoc]
    exact List.Perm.append_right _ (by have := set_flat hK; simp only [List.flatMap_cons] at this; exact this)
  · rcases List.mem_cons.1 hx with rfl | hx
    · exact hall _ (List.mem_of_getElem? hK)
    · rcases List.mem_cons.1 hx with rfl | hx
      · intro y hy
        rcases List.mem_or_eq_of_mem_set hy with h2 | rfl
        · exact hall y h2
        · exact emp_holds w
      · exact (hw.mine x (List.mem_cons_of_mem _ hx)).1
theorem Cls.into {L : List As} {A : As} {K : Nat} (hw : Cls w0 own (A :: .any (allR L) :: m) w) (hK : L[K]? = some emp) : Cls w0 own (.any (allR (L.set K A)) :: m) w := by
  have hall : ∀ x ∈ L, x.holds w := (hw.mine (.any (allR L)) (by simp)).1
  have hKl := (List.getElem?_eq_some_iff.1 hK).1
  have hKA : (L.set K A)[K]? = some A := by rw [List.getElem?_set_self hKl]
  have hback : (L.set K A).set K emp = L := by
    rw [List.set_set]
    apply List.ext_getElem?
    intro q
    rw [List.getElem?_set]
    by_cases c : K = q
    · subst c; rw [if_pos rfl, if_pos hKl, hK]
    · rw [if_neg c]
  refine hw.rePerm ?_ fun x hx => ?_
  · have h1 := set_flat hKA
    rw [hback] at h1
    simp only [List.flatMap_cons] at h1 ⊢
    rw [← List.append_assoc]
    exact List.Perm.append_right _ h1.symm
  · rcases List.mem_cons.1 hx with rfl | hx
    · intro y hy
      rcases List.mem_or_eq_of_mem_set hy with h2 | rfl
      · exact hall y h2
      · exact (hw.mine y List.mem_cons_self).1
    · exact (hw.mine x (by simp [hx])).1
theorem Cls.spread {S : List As} (hw : Cls w0 own (.any (allR S) :: m) w) : Cls w0 own (S ++ m) w := by
  refine hw.rePerm ?_ fun x hx => ?_
  · rw [List.flatMap_append, List.flatMap_cons]; exact List.Perm.refl _
  · rcases List.mem_append.1 hx with h | h
    · exact (hw.mine _ List.mem_cons_self).1 x h
    · exact (hw.mine x (List.mem_cons_of_mem _ h)).1
theorem Cls.gather {S : List As} (hw : Cls w0 own (S ++ m) w) : Cls w0 own (.any (allR S) :: m) w := by
  refine hw.rePerm ?_ fun x hx => ?_
  · rw [List.flatMap_append, List.flatMap_cons]; exact List.Perm.refl _
  · rcases List.mem_cons.1 hx with rfl | h
    · exact fun y hy => (hw.mine y (List.mem_append_left _ hy)).1
    · exact (hw.mine x (List.mem_append_right _ h)).1
/-- A thing, opened. -/
theorem Cls.arOpen (hw : Cls w0 own m w) (hm : m[p]? = some (arn row sub e g gh l hs)) (hi : idx l a = some u0) (hn : a.toNat ∉ hs) :
    Cls w0 own (thg row sub e (g a.toNat) (gh a.toNat) u0 ++ arn row sub e g gh l (a.toNat :: hs) :: m.eraseIdx p) w := by
  obtain ⟨hpl, hpe⟩ := List.getElem?_eq_some_iff.1 hm
  have h1 := hw.perm (erase_perm m p _ hm).symm
  have h2 := h1.out (hol_at (zT_get g gh l _ _ (idx_some hi).2.2) hn)
  have h3 := h2.spread
  rwa [hol_out (hs' := a.toNat :: hs) fun q => by simp] at h3
/-- Shut again, and turned. -/
theorem Cls.arShut0 {zz : List α} {vs' : List Value} (is : List Nat) (hw : Cls w0 own m w) (hz : upd l a u1 = some zz) (hn : is.Nodup) (hm : is.map (m[·]?) = ((thg row sub e (g a.toNat) vs' u1) ++ arn row sub e g gh l hs' :: m').map some) (hh : ∀ q, q ∈ hs' ↔ q = a.toNat ∨ q ∈ hs) (hq : a.toNat ∉ hs) :
    Cls w0 own (arn row sub e g (gset gh a.toNat vs') zz hs :: m') w := by
  have h1 := (hw.sel is hn hm).gather
  have hlt : a.toNat < l.length := by have := upd_some hz; omega
  have h2 := h1.into (K := a.toNat) (by rw [hol_get, zT_length, if_pos hlt, if_pos ((hh _).2 (.inl rfl))])
  rw [hol_in hh hq, ← zT_set, ← (upd_some hz).2.2] at h2
  exact h2
theorem Cls.arShut (is : List Nat) (hw : Cls w0 own m w) (hi : idx l a = some u0) (hn : is.Nodup) (hm : is.map (m[·]?) = ((thg row sub e (g a.toNat) (gh a.toNat) u0) ++ arn row sub e g gh l hs' :: m').map some) (hh : ∀ q, q ∈ hs' ↔ q = a.toNat ∨ q ∈ hs) (hq : a.toNat ∉ hs) :
    Cls w0 own (arn row sub e g gh l hs :: m') w := by
  have h0 := idx_some hi
  have h1 := Cls.arShut0 (zz := l) is hw (show upd l a u0 = some l by unfold upd; rw [if_pos ⟨h0.1, h0.2.1⟩, set_self h0.2.2]) hn hm hh hq
  rwa [gset_self] at h1
theorem L.arClose {zz : List α} {vs' : List Value} (is : List Nat) (hz : upd l a u1 = some zz) (hn : is.Nodup) (hm : is.map (m[·]?) = ((thg row sub e (g a.toNat) vs' u1) ++ arn row sub e g gh l hs' :: m').map some) (hh : ∀ q, q ∈ hs' ↔ q = a.toNat ∨ q ∈ hs) (hq : a.toNat ∉ hs)
    {ll : List Oper} (next : ∀ gh', L P ops Q n (Cls w0 own (arn row sub e g gh' zz hs :: m')) ll fs) : L P ops Q n (Cls w0 own m) ll fs := fun ac w hs hw => next _ ac w hs (hw.arShut0 is hz hn hm hh hq)
theorem W.arClose {zz : List α} {vs' : List Value} (is : List Nat) (hz : upd l a u1 = some zz) (hn : is.Nodup) (hm : is.map (m[·]?) = ((thg row sub e (g a.toNat) vs' u1) ++ arn row sub e g gh l hs' :: m').map some) (hh : ∀ q, q ∈ hs' ↔ q = a.toNat ∨ q ∈ hs) (hq : a.toNat ∉ hs)
    {ll : Code} (next : ∀ gh', W P Q n (Cls w0 own (arn row sub e g gh' zz hs :: m')) ll fs) : W P Q n (Cls w0 own m) ll fs := fun ac w hs hw => next _ ac w hs (hw.arShut0 is hz hn hm hh hq)
theorem E.arClose {zz : List α} {vs' : List Value} (is : List Nat) (hz : upd l a u1 = some zz) (hn : is.Nodup) (hm : is.map (m[·]?) = ((thg row sub e (g a.toNat) vs' u1) ++ arn row sub e g gh l hs' :: m').map some) (hh : ∀ q, q ∈ hs' ↔ q = a.toNat ∨ q ∈ hs) (hq : a.toNat ∉ hs)
    {ll : Exit} (next : ∀ gh', E ll Q n (Cls w0 own (arn row sub e g gh' zz hs :: m')) fs) : E ll Q n (Cls w0 own m) fs := fun ac w hs hw => next _ ac w hs (hw.arShut0 is hz hn hm hh hq)
theorem Cls.arKeep {vs' : List Value} (is : List Nat) (hw : Cls w0 own m w) (hi : idx l a = some u0) (hn : is.Nodup) (hm : is.map (m[·]?) = ((thg row sub e (g a.toNat) vs' u0) ++ arn row sub e g gh l hs' :: m').map some) (hh : ∀ q, q ∈ hs' ↔ q = a.toNat ∨ q ∈ hs) (hq : a.toNat ∉ hs) :
    Cls w0 own (arn row sub e g (gset gh a.toNat vs') l hs :: m') w := by
  have h0 := idx_some hi
  exact Cls.arShut0 (zz := l) is hw (show upd l a u0 = some l by unfold upd; rw [if_pos ⟨h0.1, h0.2.1⟩, set_self h0.2.2]) hn hm hh hq
theorem L.arKeep {vs' : List Value} (is : List Nat) (hz : idx l a = some u0) (hn : is.Nodup) (hm : is.map (m[·]?) = ((thg row sub e (g a.toNat) vs' u0) ++ arn row sub e g gh l hs' :: m').map some) (hh : ∀ q, q ∈ hs' ↔ q = a.toNat ∨ q ∈ hs) (hq : a.toNat ∉ hs)
    {ll : List Oper} (next : ∀ gh', L P ops Q n (Cls w0 own (arn row sub e g gh' l hs :: m')) ll fs) : L P ops Q n (Cls w0 own m) ll fs := fun ac w hs hw => next _ ac w hs (hw.arKeep is hz hn hm hh hq)
theorem W.arKeep {vs' : List Value} (is : List Nat) (hz : idx l a = some u0) (hn : is.Nodup) (hm : is.map (m[·]?) = ((thg row sub e (g a.toNat) vs' u0) ++ arn row sub e g gh l hs' :: m').map some) (hh : ∀ q, q ∈ hs' ↔ q = a.toNat ∨ q ∈ hs) (hq : a.toNat ∉ hs)
    {ll : Code} (next : ∀ gh', W P Q n (Cls w0 own (arn row sub e g gh' l hs :: m')) ll fs) : W P Q n (Cls w0 own m) ll fs := fun ac w hs hw => next _ ac w hs (hw.arKeep is hz hn hm hh hq)
theorem E.arKeep {vs' : List Value} (is : List Nat) (hz : idx l a = some u0) (hn : is.Nodup) (hm : is.map (m[·]?) = ((thg row sub e (g a.toNat) vs' u0) ++ arn row sub e g gh l hs' :: m').map some) (hh : ∀ q, q ∈ hs' ↔ q = a.toNat ∨ q ∈ hs) (hq : a.toNat ∉ hs)
    {ll : Exit} (next : ∀ gh', E ll Q n (Cls w0 own (arn row sub e g gh' l hs :: m')) fs) : E ll Q n (Cls w0 own m) fs := fun ac w hs hw => next _ ac w hs (hw.arKeep is hz hn hm hh hq)
theorem E.to {C D : World → Prop} {x : Exit} (hd : ∀ w, C w → D w) (h : E x Q n D fs) : E x Q n C fs := fun a w hs hc => h a w hs (hd w hc)
/-- One thing more. -/
theorem Cls.arNew {rowg : (Nat → Nat) → α → List Value → List Value} {subg : (Nat → Nat) → α → List Value → List As} {vs' : List Value} (is : List Nat) (hw : Cls w0 own m w) (hn : is.Nodup) (hm : is.map (m[·]?) = ((thg (rowg g) (subg g) e b vs' u1) ++ arn (rowg g) (subg g) e g gh l hs :: m').map some) (hh : ∀ q ∈ hs, q < l.length)
    (hc : ∀ g', (∀ i, i < l.length → g' i = g i) → ∀ x ∈ l ++ [u1], ∀ v, rowg g x v = rowg g' x v ∧ subg g x v = subg g' x v) :
    ∃ g' gh', Gr g l.length g' (l ++ [u1]).length ∧ pt b 0 = VP g' (l.length : Int) ∧ Cls w0 own (arn (rowg g') (subg g') e g' gh' (l ++ [u1]) hs :: m') w := by
  have hg : ∀ i, i < l.length → gput g l.length b i = g i := fun i hi => by simp [gput, hi]
  refine ⟨gput g l.length b, gapp gh (fun _ => vs') l.length, ⟨by simp, hg⟩, ?_, ?_⟩
  · rw [VP_pt (by omega)]; simp [gput]
  · have h1 := (hw.sel is hn hm).gather
    unfold arn
    rw [← zT_congr _ _ _ (hc _ hg), zT_app, hol_app (by rw [zT_length]; exact hh)]
    have hperm : ((hol hs (zT (rowg g) (subg g) e g gh l) ++ [As.any (allR (thg (rowg g) (subg g) e b vs' u1))]).flatMap As.foot).Perm ((As.any (allR (thg (rowg g) (subg g) e b vs' u1)) :: hol hs (zT (rowg g) (subg g) e g gh l)).flatMap As.foot) :=
      (List.perm_append_comm).flatMap_right _
    refine h1.rePerm ?_ fun x hx => ?_
    · simp only [List.flatMap_cons] at hperm ⊢
      rw [← List.append_assoc]
      exact List.Perm.append_right _ hperm
    · rcases List.mem_cons.1 hx with rfl | hx
      · intro y hy
        rcases List.mem_append.1 hy with h | h
        · exact (h1.mine (arn (rowg g) (subg g) e g gh l hs) (by simp)).1 y h
        · rw [List.mem_singleton.1 h]; exact (h1.mine _ List.mem_cons_self).1
      · exact (h1.mine x (by simp [hx])).1
theorem L.arNew {rowg : (Nat → Nat) → α → List Value → List Value} {subg : (Nat → Nat) → α → List Value → List As} {vs' : List Value} {F : Int → List α → Option ρ} (is : List Nat) (h : bind2 (newA l u1) F = some r) (hn : is.Nodup) (hm : is.map (m[·]?) = ((thg (rowg g) (subg g) e b vs' u1) ++ arn (rowg g) (subg g) e g gh l hs :: m').map some) (hh : ∀ q ∈ hs, q < l.length)
    (hc : ∀ g', (∀ i, i < l.length → g' i = g i) → ∀ x ∈ l ++ [u1], ∀ v, rowg g x v = rowg g' x v ∧ subg g x v = subg g' x v) {ll : List Oper}
    (next : ∀ g' gh' x z, F x z = some r → Gr g l.length g' z.length → pt b 0 = VP g' x → (∀ {q : Int} {u : α}, idx l q = some u → idx z q = some u) → L P ops Q n (Cls w0 own (arn (rowg g') (subg g') e g' gh' z hs :: m')) ll fs) : L P ops Q n (Cls w0 own m) ll fs := by
  intro ac w hs hw
  obtain ⟨g', gh', h1, h2, h3⟩ := hw.arNew is hn hm hh hc
  exact next g' gh' _ _ h h1 h2 idx_app1 ac w hs h3
theorem E.arNew {rowg : (Nat → Nat) → α → List Value → List Value} {subg : (Nat → Nat) → α → List Value → List As} {vs' : List Value} {F : Int → List α → Option ρ} (is : List Nat) (h : bind2 (newA l u1) F = some r) (hn : is.Nodup) (hm : is.map (m[·]?) = ((thg (rowg g) (subg g) e b vs' u1) ++ arn (rowg g) (subg g) e g gh l hs :: m').map some) (hh : ∀ q ∈ hs, q < l.length)
    (hc : ∀ g', (∀ i, i < l.length → g' i = g i) → ∀ x ∈ l ++ [u1], ∀ v, rowg g x v = rowg g' x v ∧ subg g x v = subg g' x v) {ll : Exit}
    (next : ∀ g' gh' x z, F x z = some r → Gr g l.length g' z.length → pt b 0 = VP g' x → (∀ {q : Int} {u : α}, idx l q = some u → idx z q = some u) → E ll Q n (Cls w0 own (arn (rowg g') (subg g') e g' gh' z hs :: m')) fs) : E ll Q n (Cls w0 own m) fs := by
  intro ac w hs hw
  obtain ⟨g', gh', h1, h2, h3⟩ := hw.arNew is hn hm hh hc
  exact next g' gh' _ _ h h1 h2 idx_app1 ac w hs h3
theorem nin1 {β γ : Type} {l' : List β} {l2 : List γ} {c : Int} {v1 : β} {v2 : γ} (hne : a ≠ c) (ha : idx l' a = some v1) (hb : idx l2 c = some v2) (ht : a.toNat ∉ hs) : a.toNat ∉ c.toNat :: hs := by
  have h1 := (idx_some ha).1
  have h2 := (idx_some hb).1
  rw [List.mem_cons, not_or]
  exact ⟨by omega, ht⟩
theorem holt {β : Type} {l' : List β} {v1 : β} {nn : Nat} (ha : idx l' a = some v1) (h : a < nn) (ht : ∀ q ∈ hs, q < nn) : ∀ q ∈ a.toNat :: hs, q < nn := by
  have h1 := (idx_some ha).1
  intro q hq
  rcases List.mem_cons.1 hq with rfl | hq
  · omega
  · exact ht q hq
theorem g_up2 {β : Type} {l' : List β} {v1 : β} {g' : Nat → Nat} {n' nn : Nat} (h : Gr g nn g' n') (ha : idx l' a = some v1) (hx : a < nn) : g a.toNat = g' a.toNat := (h.2 _ (by have := (idx_some ha).1; omega)).symm
theorem L.storeA {c : List Value} {off : Nat} (hs : szB P te 1 = true) (hx : val fs x = some (pt b off)) (hy : val fs y = some (VP g a)) (hm : m[i]? = some (.obj b c e)) (hl : off + 1 ≤ c.length) (next : L P ops Q n (Cls w0 own (m.set i (.obj b (over c off [VP g a]) e))) rest fs) :
    L P ops Q n (Cls w0 own m) (⟨none, .store te x y, t, pos, af, none⟩ :: rest) fs :=
  L.store hs hx hy (by rw [VP_cells]) rfl (by simp [VP_one]) hm hl next
/-- The same things, told by other places. -/
theorem arn_cg {row' : α → List Value → List Value} {sub' : α → List Value → List As} (h : ∀ x ∈ l, ∀ v, row x v = row' x v ∧ sub x v = sub' x v) : arn row sub e g gh l hs = arn row' sub' e g gh l hs := by
  unfold arn
  rw [zT_congr _ _ _ h]
/-- Nothing yet. -/
theorem Cls.ar0 (hw : Cls w0 own m w) (row : α → List Value → List Value) (sub : α → List Value → List As) (e : TypeId) (g : Nat → Nat) (gh : Nat → List Value) : Cls w0 own (arn row sub e g gh ([] : List α) [] :: m) w := by
  have : Cls w0 own ([] ++ m) w := hw
  exact this.gather
end
end Go.S
