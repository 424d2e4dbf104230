/-
  Arrays whose elements hold slices: the slices' values are a ghost; what they hold is owned beside the array.
  Conditions: none.
-/
import Derived.Test.YtjdbjcmmdnpeaaaH
namespace Go.S
set_option linter.unusedVariables false
set_option linter.unusedSimpArgs false
def nilV : Value := .slice none 0 0
def gv (vs : List Value) (j : Nat) : Value := (vs[j]?).getD (.slice none 0 0)
def Sd.nil (e : TypeId) (k : Nat) : Sd := ⟨.slice none 0 0, e, k, []⟩
/-- The rows of an array's elements, with the ghost. -/
def zr {α : Type} (row : α → List Value → List Value) (vs : Nat → List Value) : List α → List (List Value)
  | [] => []
  | x :: xs => row x (vs 0) :: zr row (fun i => vs (i + 1)) xs
/-- What its slices hold. -/
def zs {α : Type} (sds : α → List Value → List Sd) (vs : Nat → List Value) : List α → List Sd
  | [] => []
  | x :: xs => sds x (vs 0) ++ zs sds (fun i => vs (i + 1)) xs
def gset (vs : Nat → List Value) (i : Nat) (x : List Value) : Nat → List Value := fun q => if q = i then x else vs q
theorem gset_0 (vs : Nat → List Value) (x : List Value) : gset vs 0 x 0 = x := rfl
theorem gset_0s (vs : Nat → List Value) (x : List Value) : (fun i => gset vs 0 x (i + 1)) = fun i => vs (i + 1) := by funext i; simp [gset]
theorem gset_s0 (vs : Nat → List Value) (k : Nat) (x : List Value) : gset vs (k + 1) x 0 = vs 0 := by simp [gset]
theorem gset_ss (vs : Nat → List Value) (k : Nat) (x : List Value) : (fun i => gset vs (k + 1) x (i + 1)) = gset (fun i => vs (i + 1)) k x := by funext i; simp [gset]
theorem gset_same (vs : Nat → List Value) (i : Nat) : gset vs i (vs i) = vs := by funext q; simp only [gset]; split <;> simp_all
theorem zr_length {α : Type} (row : α → List Value → List Value) : ∀ (vs : Nat → List Value) (xs : List α), (zr row vs xs).length = xs.length
  | _, [] => rfl
  | _, x :: xs => by simp [zr, zr_length row _ xs]
theorem zr_get {α : Type} (row : α → List Value → List Value) : ∀ (vs : Nat → List Value) (xs : List α) (i : Nat) (x : α), xs[i]? = some x → (zr row vs xs)[i]? = some (row x (vs i))
  | _, [], i, x, h => by simp at h
  | vs, y :: xs, 0, x, h => by simp only [List.getElem?_cons_zero, Option.some.injEq] at h; subst h; rfl
  | vs, y :: xs, i + 1, x, h => by
    simp only [List.getElem?_cons_succ] at h
    simp only [zr, List.getElem?_cons_succ]
    exact zr_get row (fun q => vs (q + 1)) xs i x h
theorem zr_set {α : Type} (row : α → List Value → List Value) : ∀ (vs : Nat → List Value) (xs : List α) (i : Nat) (x : α) (v : List Value), i < xs.length → zr row (gset vs i v) (xs.set i x) = (zr row vs xs).set i (row x v)
  | _, [], i, x, v, h => by simp at h
  | vs, y :: xs, 0, x, v, h => by simp only [List.set_cons_zero, zr, gset_0, gset_0s]
  | vs, y :: xs, i + 1, x, v, h => by
    simp only [List.length_cons] at h
    simp only [List.set_cons_succ, zr, gset_s0, gset_ss]
    rw [zr_set row (fun q => vs (q + 1)) xs i x v (by omega)]
theorem zr_all {α : Type} {row : α → List Value → List Value} {k : Nat} (hlen : ∀ z v, (row z v).length = k) : ∀ (vs : Nat → List Value) (xs : List α), ∀ r ∈ zr row vs xs, r.length = k
  | _, [], r, h => by simp [zr] at h
  | vs, y :: xs, r, h => by
    simp only [zr, List.mem_cons] at h
    rcases h with rfl | h
    · exact hlen _ _
    · exact zr_all hlen _ xs r h
theorem zs_get {α : Type} {sds : α → List Value → List Sd} {c : Nat} (hc : ∀ z v, (sds z v).length = c) : ∀ (vs : Nat → List Value) (xs : List α) (i j : Nat) (x : α), xs[i]? = some x → j < c → (zs sds vs xs)[i * c + j]? = (sds x (vs i))[j]?
  | _, [], i, j, x, h, _ => by simp at h
  | vs, y :: xs, 0, j, x, h, hj => by
    simp only [List.getElem?_cons_zero, Option.some.injEq] at h
    subst h
    simp only [zs, Nat.zero_mul, Nat.zero_add]
    rw [List.getElem?_append_left (by rw [hc]; exact hj)]
  | vs, y :: xs, i + 1, j, x, h, hj => by
    simp only [List.getElem?_cons_succ] at h
    simp only [zs]
    rw [List.getElem?_append_right (by rw [hc, Nat.succ_mul]; omega), hc, show (i + 1) * c + j - c = i * c + j by rw [Nat.succ_mul]; omega]
    exact zs_get hc (fun q => vs (q + 1)) xs i j x h hj
theorem zs_set {α : Type} {sds : α → List Value → List Sd} {c : Nat} (hc : ∀ z v, (sds z v).length = c) : ∀ (vs : Nat → List Value) (xs : List α) (i j : Nat) (x0 x : α) (v : List Value) (d : Sd), xs[i]? = some x0 → j < c → sds x v = (sds x0 (vs i)).set j d → zs sds (gset vs i v) (xs.set i x) = (zs sds vs xs).set (i * c + j) d
  | _, [], i, j, x0, x, v, d, h, _, _ => by simp at h
  | vs, y :: xs, 0, j, x0, x, v, d, h, hj, hd => by
    simp only [List.getElem?_cons_zero, Option.some.injEq] at h
    subst h
    simp only [List.set_cons_zero, zs, gset_0, gset_0s, Nat.zero_mul, Nat.zero_add]
    rw [hd, List.set_append_left _ _ (by rw [hc]; exact hj)]
  | vs, y :: xs, i + 1, j, x0, x, v, d, h, hj, hd => by
    simp only [List.getElem?_cons_succ] at h
    simp only [List.set_cons_succ, zs, gset_s0, gset_ss]
    rw [List.set_append_right _ _ (by rw [hc, Nat.succ_mul]; omega), hc, show (i + 1) * c + j - c = i * c + j by rw [Nat.succ_mul]; omega, zs_set hc (fun q => vs (q + 1)) xs i j x0 x v d h hj hd]
/-- What is in one's hand is what is there, or there is nothing. -/
theorem zs_mem {α : Type} {sds : α → List Value → List Sd} : ∀ (vs : Nat → List Value) (xs : List α) (i : Nat) (x0 x : α) (v : List Value), xs[i]? = some x0 → ∀ d ∈ zs sds (gset vs i v) (xs.set i x), d ∈ sds x v ∨ d ∈ zs sds vs xs
  | _, [], i, x0, x, v, h, d, hd => by simp at h
  | vs, y :: xs, 0, x0, x, v, h, d, hd => by
    simp only [List.set_cons_zero, zs, gset_0, gset_0s, List.mem_append] at hd ⊢
    rcases hd with h1 | h1
    · exact .inl h1
    · exact .inr (.inr h1)
  | vs, y :: xs, i + 1, x0, x, v, h, d, hd => by
    simp only [List.getElem?_cons_succ] at h
    simp only [List.set_cons_succ, zs, gset_s0, gset_ss, List.mem_append] at hd ⊢
    rcases hd with h1 | h1
    · exact .inr (.inl h1)
    · rcases zs_mem (fun q => vs (q + 1)) xs i x0 x v h d h1 with h2 | h2
      · exact .inl h2
      · exact .inr (.inr h2)
theorem zr_repl {α : Type} (row : α → List Value → List Value) (nv : List Value) (z : α) : ∀ n, zr row (fun _ => nv) (List.replicate n z) = List.replicate n (row z nv)
  | 0 => rfl
  | n + 1 => by rw [List.replicate_succ, zr, zr_repl row nv z n, List.replicate_succ]
theorem zs_repl {α : Type} {sds : α → List Value → List Sd} {nv : List Value} {z : α} {p : Sd → Prop} (h : ∀ d ∈ sds z nv, p d) : ∀ n, ∀ d ∈ zs sds (fun _ => nv) (List.replicate n z), p d
  | 0, d, hd => by simp [zs] at hd
  | n + 1, d, hd => by
    rw [List.replicate_succ, zs, List.mem_append] at hd
    rcases hd with h1 | h1
    · exact h d h1
    · exact zs_repl h n d h1

/-! ### The footprints -/
theorem foot_set_sub {l : List Sd} {i : Nat} {d d' : Sd} (hi : l[i]? = some d) (hf : d'.foot = []) : (d.foot ++ (l.set i d').flatMap Sd.foot).Perm (l.flatMap Sd.foot) := by
  induction l generalizing i with
  | nil => simp at hi
  | cons a l ih =>
    cases i with
    | zero =>
      simp only [List.getElem?_cons_zero, Option.some.injEq] at hi
      subst hi
      simp [hf]
    | succ i =>
      simp only [List.getElem?_cons_succ] at hi
      simp only [List.set_cons_succ, List.flatMap_cons]
      refine List.Perm.trans ?_ (List.Perm.append_left a.foot (ih hi))
      rw [← List.append_assoc, ← List.append_assoc]
      exact List.Perm.append_right _ List.perm_append_comm
theorem asfoot_set {m : List As} {i : Nat} {x y : As} (hi : m[i]? = some x) : (x.foot ++ (m.set i y).flatMap As.foot).Perm (y.foot ++ m.flatMap As.foot) := by
  induction m generalizing i with
  | nil => simp at hi
  | cons a m ih =>
    cases i with
    | zero =>
      simp only [List.getElem?_cons_zero, Option.some.injEq] at hi
      subst hi
      simp only [List.set_cons_zero, List.flatMap_cons]
      rw [← List.append_assoc, ← List.append_assoc]
      exact List.Perm.append_right _ List.perm_append_comm
    | succ i =>
      simp only [List.getElem?_cons_succ] at hi
      simp only [List.set_cons_succ, List.flatMap_cons]
      refine List.Perm.trans ?_ (List.Perm.trans (List.Perm.append_left a.foot (ih hi)) ?_)
      · rw [← List.append_assoc, ← List.append_assoc]; exact List.Perm.append_right _ List.perm_append_comm
      · rw [← List.append_assoc, ← List.append_assoc]; exact List.Perm.append_right _ List.perm_append_comm
theorem asfoot_erase {m : List As} {i : Nat} {x : As} (hi : m[i]? = some x) : (x.foot ++ (m.eraseIdx i).flatMap As.foot).Perm (m.flatMap As.foot) := by
  induction m generalizing i with
  | nil => simp at hi
  | cons a m ih =>
    cases i with
    | zero =>
      simp only [List.getElem?_cons_zero, Option.some.injEq] at hi
      subst hi
      simp
    | succ i =>
      simp only [List.getElem?_cons_succ] at hi
      simp only [List.eraseIdx_cons_succ, List.flatMap_cons]
      refine List.Perm.trans ?_ (List.Perm.append_left a.foot (ih hi))
      rw [← List.append_assoc, ← List.append_assoc]
      exact List.Perm.append_right _ List.perm_append_comm
section
variable {w0 w w' : World} {own : List Nat} {m m' : List As}
/-- The same blocks, or some of them, told anew. -/
theorem Cls.re (h : Cls w0 own m w) (hsub : ∀ b ∈ m'.flatMap As.foot, b ∈ m.flatMap As.foot) (hn : (m'.flatMap As.foot).Nodup) (hold : ∀ x ∈ m', x.holds w) : Cls w0 own m' w := by
  refine ⟨h.os, h.tape, h.output, h.dr, h.size, h.old, hn, fun x hx => ⟨hold x hx, fun b hb => ?_⟩⟩
  obtain ⟨y, hy, hby⟩ := List.mem_flatMap.1 (hsub b (List.mem_flatMap.2 ⟨x, hx, hb⟩))
  exact (h.mine y hy).2 b hby
theorem Cls.rePerm (h : Cls w0 own m w) (hp : (m'.flatMap As.foot).Perm (m.flatMap As.foot)) (hold : ∀ x ∈ m', x.holds w) : Cls w0 own m' w :=
  h.re (fun b hb => hp.mem_iff.1 hb) (hp.nodup_iff.2 h.nodup) hold
theorem nilfoot (e : TypeId) (k : Nat) : (Sd.nil e k).foot = [] := rfl
theorem slHolds_nil (w : World) (e : TypeId) (k : Nat) : slHolds w (.slice none 0 0) e k [] := ⟨by simp, by simp, .inl ⟨rfl, rfl⟩⟩
/-- Nothing but empty slices. -/
theorem Cls.ssNew (h : Cls w0 own m w) {l : List Sd} (hl : ∀ d ∈ l, d.v = .slice none 0 0 ∧ d.rows = []) : Cls w0 own (.ss l :: m) w := by
  have hf : l.flatMap Sd.foot = [] := by
    rw [List.flatMap_eq_nil_iff]
    intro d hd
    unfold Sd.foot
    rw [(hl d hd).1]; rfl
  refine h.rePerm ?_ fun x hx => ?_
  · simp [As.foot, hf]
  · rcases List.mem_cons.1 hx with rfl | hx
    · intro d hd
      obtain ⟨h1, h2⟩ := hl d hd
      rw [h1, h2]
      exact slHolds_nil w _ _
    · exact (h.mine x hx).1
theorem Cls.ssOut (h : Cls w0 own m w) {s i : Nat} {l : List Sd} {v : Value} {e : TypeId} {k : Nat} {rows : List (List Value)} (hs : m[s]? = some (.ss l)) (hi : l[i]? = some ⟨v, e, k, rows⟩) (e' : TypeId) (k' : Nat) : Cls w0 own (.sl v e k rows :: m.set s (.ss (l.set i (Sd.nil e' k')))) w := by
  have hss : (As.ss l).holds w := h.get hs
  have hd : (⟨v, e, k, rows⟩ : Sd) ∈ l := List.mem_of_getElem? hi
  refine h.rePerm ?_ fun x hx => ?_
  · simp only [List.flatMap_cons]
    have h1 := asfoot_set (y := .ss (l.set i (Sd.nil e' k'))) hs
    have h2 := foot_set_sub hi (nilfoot e' k')
    have h3 : ((As.sl v e k rows).foot ++ (As.ss (l.set i (Sd.nil e' k'))).foot).Perm (As.ss l).foot := h2
    have h4 : ((As.ss (l.set i (Sd.nil e' k'))).foot ++ ((As.sl v e k rows).foot ++ (m.set s (.ss (l.set i (Sd.nil e' k')))).flatMap As.foot)).Perm ((As.ss (l.set i (Sd.nil e' k'))).foot ++ m.flatMap As.foot) := by
      rw [← List.append_assoc]
      exact (List.Perm.append_right _ (List.perm_append_comm.trans h3)).trans h1
    exact (List.perm_append_left_iff _).1 h4
  · rcases List.mem_cons.1 hx with rfl | hx
    · exact hss _ hd
    · rcases List.mem_or_eq_of_mem_set hx with hx | rfl
      · exact (h.mine x hx).1
      · intro d hd'
        rcases List.mem_or_eq_of_mem_set hd' with h1 | rfl
        · exact hss d h1
        · exact slHolds_nil w _ _
/-- Put back. -/
theorem Cls.ssIn (h : Cls w0 own m w) {p s i : Nat} {l : List Sd} {v : Value} {e e' : TypeId} {k k' : Nat} {rows : List (List Value)} (hp : m[p]? = some (.sl v e k rows)) (hs : m[s]? = some (.ss (l.set i (Sd.nil e' k')))) (hps : p ≠ s) (hi : i < l.length) : Cls w0 own ((m.set s (.ss (l.set i ⟨v, e, k, rows⟩))).eraseIdx p) w := by
  have hss : (As.ss (l.set i (Sd.nil e' k'))).holds w := h.get hs
  have hsl : (As.sl v e k rows).holds w := h.get hp
  have hp' : (m.set s (.ss (l.set i ⟨v, e, k, rows⟩)))[p]? = some (.sl v e k rows) := by rw [List.getElem?_set_ne (Ne.symm hps)]; exact hp
  refine h.rePerm ?_ fun x hx => ?_
  · have h1 := asfoot_erase hp'
    have h2 := asfoot_set (y := .ss (l.set i ⟨v, e, k, rows⟩)) hs
    have h3 : ((As.sl v e k rows).foot ++ (As.ss (l.set i (Sd.nil e' k'))).foot).Perm (As.ss (l.set i ⟨v, e, k, rows⟩)).foot := by
      have := foot_set_sub (l := l.set i ⟨v, e, k, rows⟩) (i := i) (d := ⟨v, e, k, rows⟩) (d' := Sd.nil e' k') (by simp [hi]) (nilfoot e' k')
      rw [List.set_set] at this
      exact this
    -- sl ++ erased ~ set;  ssold ++ set ~ ssnew ++ m ~ sl ++ ssold ++ m
    have h5 : ((As.sl v e k rows).foot ++ (As.ss (l.set i (Sd.nil e' k'))).foot ++ ((m.set s (.ss (l.set i ⟨v, e, k, rows⟩))).eraseIdx p).flatMap As.foot).Perm ((As.sl v e k rows).foot ++ (As.ss (l.set i (Sd.nil e' k'))).foot ++ m.flatMap As.foot) := by
      refine List.Perm.trans ?_ (List.Perm.trans h2 (List.Perm.append_right _ h3.symm))
      refine List.Perm.trans (List.Perm.append_right _ List.perm_append_comm) ?_
      rw [List.append_assoc]
      exact List.Perm.append_left _ h1
    exact (List.perm_append_left_iff _).1 h5
  · have hx' := List.mem_of_mem_eraseIdx hx
    rcases List.mem_or_eq_of_mem_set hx' with hx | rfl
    · exact (h.mine x hx).1
    · intro d hd'
      obtain ⟨j, hj⟩ := List.getElem?_of_mem hd'
      rw [List.getElem?_set] at hj
      split at hj
      · simp [hi] at hj
        subst hj
        exact hsl
      · rename_i hne
        refine hss d ?_
        refine List.mem_of_getElem? (i := j) ?_
        rw [List.getElem?_set_ne hne]
        exact hj
/-- Some slices are left behind. -/
theorem Cls.ssLess (h : Cls w0 own m w) {s : Nat} {l l' : List Sd} (hs : m[s]? = some (.ss l)) (hsub : ∀ b ∈ l'.flatMap Sd.foot, b ∈ l.flatMap Sd.foot) (hn : (l.flatMap Sd.foot).Nodup → (l'.flatMap Sd.foot).Nodup) (hold : (As.ss l).holds w → (As.ss l').holds w) : Cls w0 own (m.set s (.ss l')) w := by
  have hil := (List.getElem?_eq_some_iff.1 hs).1
  have key : ∀ (m : List As) (s : Nat), m[s]? = some (.ss l) → (m.flatMap As.foot).Nodup → ((m.set s (.ss l')).flatMap As.foot).Nodup ∧ ∀ b ∈ (m.set s (.ss l')).flatMap As.foot, b ∈ m.flatMap As.foot := by
    intro m
    induction m with
    | nil => intro s h; simp at h
    | cons a m ih =>
      intro s hs hnd
      rw [List.flatMap_cons, List.nodup_append] at hnd
      cases s with
      | zero =>
        simp only [List.getElem?_cons_zero, Option.some.injEq] at hs
        subst hs
        simp only [List.set_cons_zero, List.flatMap_cons]
        refine ⟨List.nodup_append.2 ⟨hn hnd.1, hnd.2.1, fun a ha b hb => hnd.2.2 a (hsub a ha) b hb⟩, fun b hb => ?_⟩
        rcases List.mem_append.1 hb with h1 | h1
        · exact List.mem_append_left _ (hsub b h1)
        · exact List.mem_append_right _ h1
      | succ s =>
        simp only [List.getElem?_cons_succ] at hs
        obtain ⟨g1, g2⟩ := ih s hs hnd.2.1
        simp only [List.set_cons_succ, List.flatMap_cons]
        refine ⟨List.nodup_append.2 ⟨hnd.1, g1, fun a ha b hb => hnd.2.2 a ha b (g2 b hb)⟩, fun b hb => ?_⟩
        rcases List.mem_append.1 hb with h1 | h1
        · exact List.mem_append_left _ h1
        · exact List.mem_append_right _ (g2 b h1)
  obtain ⟨g1, g2⟩ := key m s hs h.nodup
  refine h.re g2 g1 fun x hx => ?_
  rcases List.mem_or_eq_of_mem_set hx with hx | rfl
  · exact (h.mine x hx).1
  · exact hold (h.get hs)
end
end Go.S
