/-
  Package pool: the document's table, ranged over in whatever order.
  Conditions: none.
-/
import Derived.Test.YtfmgjigdebofaaaPoL
namespace Go.Proofs.Ytfmgjigdebofaaa
open Go.S
set_option linter.unusedVariables false
set_option linter.unusedSimpArgs false
theorem erase_perm {α : Type} : ∀ (l : List α) (j : Nat) (h : j < l.length), (l[j] :: l.eraseIdx j).Perm l
  | [], j, h => by simp at h
  | x :: l, 0, h => List.Perm.refl _
  | x :: l, j + 1, h => by
    have := erase_perm l j (by simpa using h)
    simp only [List.getElem_cons_succ, List.eraseIdx_cons_succ]
    exact (List.Perm.swap _ _ _).trans (this.cons _)
/-- Ahead of. -/
def lt2 (a b c d : Int) : Prop := a < c ∨ (a = c ∧ b < d)
instance (a b c d : Int) : Decidable (lt2 a b c d) := inferInstanceAs (Decidable (_ ∨ _))
/-- The first number by which the document chooses. -/
def k0 (rule : Int) (refs : List Int) (i : Nat) (p : Int) : Int := if rule = 2 then (if p ∈ refs.drop i then -(ixN p (refs.drop i) : Int) else (i : Int) - refs.length) else 0
section
variable {refs : List Int} {rule : Int} {i : Nat} {c : KL} {x : Int} {hs : List Bool} {go3 : List Bool → Int → KL → Option (List Bool × List Int)} {r : List Bool × List Int}
theorem K8_eq (first : Bool) (b0 b1 : Int) (go4 : Int → Bool → KL → List Int → Option (List Bool × List Int)) (p : Int) (l : KL) (out d t : Int) :
    m70_quirref_Pool_K8 first [b0, b1] go4 p l out [d, t] = if first = true ∨ lt2 d t b0 b1 then go4 p false l [d, t] else go4 out first l [b0, b1] := by
  have hA : arrN 2 [d, t] = some [d, t] := rfl
  have hB : arrN 2 [b0, b1] = some [b0, b1] := rfl
  have h0 : idxA 2 [d, t] 0 = some d := rfl
  have h1 : idxA 2 [d, t] 1 = some t := rfl
  have h2 : idxA 2 [b0, b1] 0 = some b0 := rfl
  have h3 : idxA 2 [b0, b1] 1 = some b1 := rfl
  have hF : ¬ (false = true) := by simp
  unfold m70_quirref_Pool_K8 m70_quirref_Pool_K9 m70_quirref_Pool_K10
  simp only [hA, hB, h0, h1, h2, h3, bind1_some, if_true, if_neg hF]
  by_cases f : first = true
  · rw [if_pos f, if_pos (Or.inl f)]
  · rw [if_neg f]
    by_cases a : d < b0
    · rw [if_pos a, if_pos (Or.inr (show lt2 d t b0 b1 from Or.inl a))]
    · rw [if_neg a]
      by_cases e : d = b0
      · rw [if_pos e]
        by_cases g : t < b1
        · rw [if_pos g, if_pos (Or.inr (show lt2 d t b0 b1 from Or.inr ⟨e, g⟩))]
        · rw [if_neg g, if_neg]
          rintro (h | h | h)
          · exact f h
          · exact a h
          · exact g h.2
      · rw [if_neg e, if_neg]
        rintro (h | h | h)
        · exact f h
        · exact a h
        · exact e h.1
theorem argmin (hl : refs.length ≤ 1000000) (hi : i ≤ refs.length) {p0 t0 : Int} (hr : m70_quirref_Pool_K7 c x i go3 hs p0 = some r) : ∀ (m : Nat) (left : KL) (out : Int) (first : Bool) (b0 b1 : Int) (n : Nat), left.length = m → m < n →
    (first = true ∨ lt2 (k0 rule refs i p0) t0 b0 b1 ∨ (b0 = k0 rule refs i p0 ∧ b1 = t0 ∧ out = p0)) →
    (∀ q ∈ left, q = (p0, t0) ∨ lt2 (k0 rule refs i p0) t0 (k0 rule refs i q.1) q.2) →
    ((p0, t0) ∈ left ∨ (first = false ∧ b0 = k0 rule refs i p0 ∧ b1 = t0 ∧ out = p0)) →
    m70_quirref_Pool_L4 c x i go3 hs rule refs n out first left [b0, b1] = some r := by
  intro m
  induction m with
  | zero =>
    intro left out first b0 b1 n hm hn h1 h2 h3
    obtain ⟨n, rfl⟩ := dec n hn
    have : left = [] := List.eq_nil_of_length_eq_zero hm
    subst this
    rw [m70_quirref_Pool_L4, m70_quirref_Pool_L4B]
    rcases h3 with h3 | ⟨_, _, _, rfl⟩
    · simp at h3
    · exact hr
  | succ m ih =>
    intro left out first b0 b1 n hm hn h1 h2 h3
    obtain ⟨n, rfl⟩ := dec n (by omega)
    rw [m70_quirref_Pool_L4, m70_quirref_Pool_L4B]
    refine nxt_ok (by rintro rfl; simp at hm) fun j q hj => ?_
    obtain ⟨hjl, rfl⟩ := List.getElem?_eq_some_iff.1 hj
    have hlen : (left.eraseIdx j).length = m := by rw [List.length_eraseIdx]; split <;> omega
    have hperm : (left[j] :: left.eraseIdx j).Perm left := erase_perm _ _ hjl
    generalize hq : left[j] = q at *
    obtain ⟨p, t⟩ := q
    simp only
    have hA : arrN 2 (List.replicate 2 (0 : Int)) = some (List.replicate 2 (0 : Int)) := rfl
    have hB : arrN 2 ([0, t] : List Int) = some [0, t] := rfl
    have hu : ∀ v : Int, upd ([0, t] : List Int) 0 v = some [v, t] := fun v => rfl
    have hu2 : ∀ w v : Int, upd ([w, t] : List Int) 0 v = some [v, t] := fun w v => rfl
    have hx : ∀ w : Int, idxA 2 ([w, t] : List Int) 0 = some w := fun w => rfl
    have key : (if rule = 2 then bind1 (i64 ((i : Int) - (refs.length : Int))) fun x53 => bind1 (idxA 2 ([0, t] : List Int) 0) fun x54 => bind1 (upd ([0, t] : List Int) 0 x53) fun l55 => bind1 (cut refs i refs.length) fun l56 => bind1 (m121_slices_Index_int l56 p) fun x57 => if 0 ≤ x57 then bind1 (idxA 2 l55 0) fun x60 => bind1 (upd l55 0 (IntKind.wrap .i64 (-x57))) fun l61 => m70_quirref_Pool_K8 first [b0, b1] (m70_quirref_Pool_L4 c x i go3 hs rule refs n) p (left.eraseIdx j) out l61 else m70_quirref_Pool_K8 first [b0, b1] (m70_quirref_Pool_L4 c x i go3 hs rule refs n) p (left.eraseIdx j) out l55 else m70_quirref_Pool_K8 first [b0, b1] (m70_quirref_Pool_L4 c x i go3 hs rule refs n) p (left.eraseIdx j) out ([0, t] : List Int))
        = m70_quirref_Pool_K8 first [b0, b1] (m70_quirref_Pool_L4 c x i go3 hs rule refs n) p (left.eraseIdx j) out [k0 rule refs i p, t] := by
      unfold k0
      by_cases hr2 : rule = 2
      · rw [if_pos hr2, if_pos hr2, i64_ok (by omega) (by omega), bind1_some, hx, bind1_some, hu, bind1_some, cut_drop refs i hi, bind1_some, index_eq _ _ (by rw [List.length_drop]; omega), bind1_some]
        have hle := ixN_le p (refs.drop i)
        rw [List.length_drop] at hle
        by_cases hp : p ∈ refs.drop i
        · rw [if_pos ((ixI_nonneg _ _).2 hp), if_pos hp, hx, bind1_some, hu2, bind1_some, ixI_mem hp, wrapI64 (by omega) (by omega)]
        · rw [if_neg (fun h => hp ((ixI_nonneg _ _).1 h)), if_neg hp]
      · rw [if_neg hr2, if_neg hr2]
    rw [hA, bind1_some, hB, bind1_some, key, K8_eq]
    have h2' : ∀ q ∈ left.eraseIdx j, q = (p0, t0) ∨ lt2 (k0 rule refs i p0) t0 (k0 rule refs i q.1) q.2 := fun q hq => h2 q (hperm.mem_iff.1 (List.mem_cons_of_mem _ hq))
    have hpt : (p, t) = (p0, t0) ∨ lt2 (k0 rule refs i p0) t0 (k0 rule refs i p) t := h2 (p, t) (hperm.mem_iff.1 (List.mem_cons_self ..))
    by_cases hc : first = true ∨ lt2 (k0 rule refs i p) t b0 b1
    · rw [if_pos hc]
      refine ih _ _ _ _ _ n hlen (by omega) ?_ h2' ?_
      · right
        rcases hpt with hpt | hpt
        · simp only [Prod.mk.injEq] at hpt
          right; exact ⟨by rw [hpt.1], hpt.2, hpt.1⟩
        · left; exact hpt
      · rcases hpt with hpt | hpt
        · simp only [Prod.mk.injEq] at hpt
          right; exact ⟨rfl, by rw [hpt.1], hpt.2, hpt.1⟩
        · rcases h3 with h3 | ⟨h3, h4, h5, h6⟩
          · left
            rcases List.mem_cons.1 (hperm.mem_iff.2 h3) with h | h
            · simp only [Prod.mk.injEq] at h
              exfalso
              rw [h.1, h.2] at hpt
              unfold lt2 at hpt
              omega
            · exact h
          · exfalso
            rcases hc with hc | hc
            · rw [h3] at hc; cases hc
            · unfold lt2 at hc hpt
              omega
    · rw [if_neg hc]
      have hf : first = false := by
        cases hh : first with
        | false => rfl
        | true => exact absurd (Or.inl hh) hc
      refine ih _ _ _ _ _ n hlen (by omega) h1 h2' ?_
      rcases h3 with h3 | h3
      · rcases List.mem_cons.1 (hperm.mem_iff.2 h3) with h | h
        · simp only [Prod.mk.injEq] at h
          right
          rcases h1 with h1 | h1 | h1
          · rw [hf] at h1; cases h1
          · exfalso
            rw [h.1, h.2] at h1
            exact hc (Or.inr h1)
          · exact ⟨hf, h1⟩
        · left; exact h
      · right; exact h3
end
/-! ### What is there at the end -/
section
variable {refs : List Int} {c : KL} {hs : List Bool} {r : List Bool × List Int}
theorem inner0 {i : Nat} {go1 : List Int → Int → Option (List Bool × List Int)} : ∀ (m : Nat) (left : KL) (kept : List Int) (n : Nat), left.length = m → m < n → (∀ q ∈ left, q.2 ≠ (i : Int)) → m70_quirref_Pool_K3 i go1 kept = some r → m70_quirref_Pool_L2 i go1 n kept left = some r := by
  intro m
  induction m with
  | zero =>
    intro left kept n hm hn h1 hr
    obtain ⟨n, rfl⟩ := dec n hn
    have : left = [] := List.eq_nil_of_length_eq_zero hm
    subst this
    exact hr
  | succ m ih =>
    intro left kept n hm hn h1 hr
    obtain ⟨n, rfl⟩ := dec n (by omega)
    rw [m70_quirref_Pool_L2, m70_quirref_Pool_L2B]
    refine nxt_ok (by rintro rfl; simp at hm) fun j q hj => ?_
    obtain ⟨hjl, rfl⟩ := List.getElem?_eq_some_iff.1 hj
    have hlen : (left.eraseIdx j).length = m := by rw [List.length_eraseIdx]; split <;> omega
    show (if left[j].2 = (i : Int) then _ else _) = some r
    rw [if_neg (h1 _ (List.getElem_mem hjl))]
    exact ih _ _ n hlen (by omega) (fun q hq => h1 q (List.mem_of_mem_eraseIdx hq)) hr
theorem inner1 {i : Nat} {go1 : List Int → Int → Option (List Bool × List Int)} {p : Int} (kept : List Int) (hk : kept.length ≤ 1000000) (hr : m70_quirref_Pool_K3 i go1 (kept ++ [p]) = some r) : ∀ (m : Nat) (left : KL) (n : Nat), left.length = m → m < n →
    (left.map Prod.snd).Nodup → (p, (i : Int)) ∈ left → m70_quirref_Pool_L2 i go1 n kept left = some r := by
  intro m
  induction m with
  | zero =>
    intro left n hm hn h1 hp
    have : left = [] := List.eq_nil_of_length_eq_zero hm
    subst this
    simp at hp
  | succ m ih =>
    intro left n hm hn h1 hp
    obtain ⟨n, rfl⟩ := dec n (by omega)
    rw [m70_quirref_Pool_L2, m70_quirref_Pool_L2B]
    refine nxt_ok (by rintro rfl; simp at hm) fun j q hj => ?_
    obtain ⟨hjl, rfl⟩ := List.getElem?_eq_some_iff.1 hj
    have hlen : (left.eraseIdx j).length = m := by rw [List.length_eraseIdx]; split <;> omega
    have hperm : (left[j] :: left.eraseIdx j).Perm left := erase_perm _ _ hjl
    have hnd : ((left[j] :: left.eraseIdx j).map Prod.snd).Nodup := (hperm.map _).nodup_iff.2 h1
    rw [List.map_cons, List.nodup_cons] at hnd
    rcases List.mem_cons.1 (hperm.mem_iff.2 hp) with h | h
    · rw [← h] at hnd ⊢
      simp only at hnd ⊢
      rw [if_pos trivial, app_ok (by simp only [List.length_singleton]; omega), bind1_some]
      refine inner0 m _ _ n hlen (by omega) (fun q hq hqi => hnd.1 ?_) hr
      rw [← hqi]
      exact List.mem_map.2 ⟨q, hq, rfl⟩
    · have hne : left[j].2 ≠ (i : Int) := fun hh => hnd.1 (by rw [hh]; exact List.mem_map.2 ⟨_, h, rfl⟩)
      show (if left[j].2 = (i : Int) then _ else _) = some r
      rw [if_neg hne]
      exact ih _ n hlen (by omega) hnd.2 h
theorem outer (hl : refs.length ≤ 1000000) (hc : c.length ≤ 1000000) : ∀ (d i : Nat) (K1 K2 : KL), i + d = refs.length → (∀ q ∈ K1, q.2 < (i : Int)) → (∀ q ∈ K2, (i : Int) ≤ q.2) → Kp (K1 ++ K2) c refs.length → ∀ n, d < n →
    m70_quirref_Pool_L1 refs c hs n (K1.map Prod.fst) i = some (hs, (K1 ++ K2).map Prod.fst) := by
  intro d
  induction d with
  | zero =>
    intro i K1 K2 hi h1 h2 hK n hn
    obtain ⟨n, rfl⟩ := dec n hn
    have : K2 = [] := by
      cases K2 with
      | nil => rfl
      | cons q K2 =>
        have a := h2 q (List.mem_cons_self ..)
        have b := (hK.lo q (by simp)).2
        omega
    subst this
    rw [m70_quirref_Pool_L1, m70_quirref_Pool_L1B, if_neg (by omega), List.append_nil]
    rfl
  | succ d ih =>
    intro i K1 K2 hi h1 h2 hK n hn
    obtain ⟨n, rfl⟩ := dec n (by omega)
    rw [m70_quirref_Pool_L1, m70_quirref_Pool_L1B, if_pos (by omega)]
    have hcl : c.length = (K1 ++ K2).length := hK.perm.length_eq
    have hsnd : (c.map Prod.snd).Nodup := by
      refine (hK.perm.map _).nodup_iff.2 ?_
      rw [List.Nodup, List.pairwise_map]
      exact hK.srt.imp fun h => by omega
    have nop : (∀ q ∈ K2, q.2 ≠ (i : Int)) → m70_quirref_Pool_L2 i (m70_quirref_Pool_L1 refs c hs n) big (K1.map Prod.fst) c = some (hs, (K1 ++ K2).map Prod.fst) := by
      intro hne
      refine inner0 c.length c _ big rfl (lt_big (by omega)) (fun q hq => ?_) ?_
      · rcases List.mem_append.1 (hK.perm.mem_iff.1 hq) with h | h
        · have := h1 q h; omega
        · exact hne q h
      · rw [m70_quirref_Pool_K3, isucc i (by omega), bind1_some]
        refine ih (i + 1) K1 K2 (by omega) (fun q hq => by have := h1 q hq; omega) (fun q hq => ?_) hK n (by omega)
        have := h2 q hq
        have := hne q hq
        omega
    cases K2 with
    | nil => exact nop (by simp)
    | cons q K2 =>
      by_cases hq : q.2 = (i : Int)
      · have e : K1 ++ q :: K2 = (K1 ++ [q]) ++ K2 := by simp
        refine inner1 (p := q.1) _ (by rw [List.length_map]; rw [List.length_append] at hcl; omega) ?_ c.length c big rfl (lt_big (by omega)) hsnd ?_
        · rw [m70_quirref_Pool_K3, isucc i (by omega), bind1_some, e, show List.map Prod.fst K1 ++ [q.1] = (K1 ++ [q]).map Prod.fst by simp]
          rw [e] at hK
          refine ih (i + 1) (K1 ++ [q]) K2 (by omega) (fun z hz => ?_) (fun z hz => ?_) hK n (by omega)
          · rcases List.mem_append.1 hz with h | h
            · have := h1 z h; omega
            · simp only [List.mem_singleton] at h; subst h; omega
          · have hs := hK.srt
            rw [List.pairwise_append] at hs
            have := hs.2.2 q (by simp) z hz
            omega
        · rw [← hq]
          exact hK.perm.mem_iff.2 (by simp)
      · refine nop fun z hz => ?_
        rcases List.mem_cons.1 hz with rfl | hz
        · exact hq
        · have hs := hK.srt
          rw [List.pairwise_append] at hs
          have h3 := (List.pairwise_cons.1 hs.2.1).1 z hz
          have := h2 q (by simp)
          omega
end
end Go.Proofs.Ytfmgjigdebofaaa
