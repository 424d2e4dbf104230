/-
  Parts of a graph: a walker's visit keeps what makes the parts right.
  Conditions: none.
-/
import Derived.Test.YtjhcdmcikodgkaaGrB
namespace Go.Proofs.Ytjhcdmcikodgkaa
open Go.S
set_option linter.unusedVariables false
set_option linter.unusedSimpArgs false

/-! ### Words -/
def ixF (x : Int) : List Int → Nat → Int
  | [], _ => -1
  | a :: l, i => if x = a then (i : Int) else ixF x l (i + 1)
theorem ixF_mem (x : Int) : ∀ (l : List Int) (i : Nat), 0 ≤ ixF x l i ↔ x ∈ l
  | [], i => by simp [ixF]
  | a :: l, i => by
    rw [ixF, List.mem_cons]
    by_cases c : x = a
    · rw [if_pos c]; exact ⟨fun _ => .inl c, fun _ => by omega⟩
    · rw [if_neg c, ixF_mem x l (i + 1)]
      exact ⟨.inr, fun h => h.resolve_left c⟩
theorem ixF_app {x : Int} (T : List Int) : ∀ (s : List Int) (i : Nat), x ∉ s → ixF x (s ++ x :: T) i = ((i + s.length : Nat) : Int)
  | [], i, _ => by simp [ixF]
  | a :: s, i, h => by
    rw [List.mem_cons, not_or] at h
    rw [List.cons_append, ixF, if_neg h.1, ixF_app T s (i + 1) h.2, List.length_cons]
    congr 1
    omega
theorem indexF (l : List Int) (hl : l.length ≤ 1000000) (x : Int) : ∀ (r i : Nat), i + r = l.length → ∀ m, r < m → m21_slices_Index_int_L1 l x m (i : Int) = some (ixF x (l.drop i) i) := by
  intro r
  induction r with
  | zero =>
    intro i hi m hm
    obtain ⟨m, rfl⟩ := dec m hm
    rw [m21_slices_Index_int_L1, m21_slices_Index_int_L1B, if_neg (by omega), m21_slices_Index_int_K1, List.drop_eq_nil_of_le (by omega)]
    rfl
  | succ r ih =>
    intro i hi m hm
    obtain ⟨m, rfl⟩ := dec m (by omega)
    have h1 : i < l.length := by omega
    rw [m21_slices_Index_int_L1, m21_slices_Index_int_L1B, if_pos (by omega), idx_ok h1, bind1_some, drop_cons h1, ixF]
    by_cases c : x = l[i]
    · rw [if_pos c, if_pos c]
    · rw [if_neg c, if_neg c, isucc i (by omega), bind1_some, ih (i + 1) (by omega) m (by omega)]
theorem index_eq (l : List Int) (hl : l.length ≤ 1000000) (x : Int) : m21_slices_Index_int l x = some (ixF x l 0) := by
  have := indexF l hl x l.length 0 (by omega) big (lt_big (by omega))
  rw [List.drop_zero] at this
  exact this
theorem contains_eq (l : List Int) (hl : l.length ≤ 1000000) (x : Int) : m35_slices_Contains_int l x = some (decide (x ∈ l)) := by
  rw [m35_slices_Contains_int, index_eq l hl x, bind1_some]
  congr 1
  exact decide_eq_decide.2 (ixF_mem x l 0)
theorem srt_perm (l : List Int) : (srt l).Perm l := by unfold srt; exact List.mergeSort_perm l _
theorem srt_le (l : List Int) : (srt l).Pairwise (· ≤ ·) := by
  have h := List.pairwise_mergeSort (le := fun x y : Int => decide (x ≤ y)) (fun a b c h1 h2 => by simp only [decide_eq_true_eq] at *; omega) (fun a b => by simp only [Bool.or_eq_true, decide_eq_true_eq]; omega) l
  exact h.imp fun h => by simpa using h
theorem srt_lt {l : List Int} (h : l.Nodup) : (srt l).Pairwise (· < ·) := by
  have h1 := srt_le l
  have h2 : (srt l).Nodup := (srt_perm l).nodup_iff.2 h
  exact (List.pairwise_and_iff.2 ⟨h1, h2⟩).imp fun {a b} h => by have h3 : a ≠ b := h.2; have h4 := h.1; omega

/-! ### Reaching -/
def Rch (es : List TEdge) (x y : Int) : Prop := x = y ∨ TC es x y
theorem Rch.refl {es : List TEdge} (x : Int) : Rch es x x := .inl rfl
theorem Rch.trans {es : List TEdge} {x y z : Int} (h1 : Rch es x y) (h2 : Rch es y z) : Rch es x z := by
  rcases h1 with rfl | h1
  · exact h2
  · rcases h2 with rfl | h2
    · exact .inr h1
    · exact .inr (TC.trans h1 h2)
theorem Rch.edge {es : List TEdge} {x y : Int} (h : Ed es x y) : Rch es x y := .inr (.single h)
theorem tc_closed {es : List TEdge} {A : Int → Prop} (h : ∀ x, A x → ∀ y, Ed es x y → A y) {x y : Int} (hx : A x) (hr : TC es x y) : A y := by
  induction hr with
  | single h1 => exact h _ hx _ h1
  | tail _ h1 ih => exact h _ ih _ h1
theorem rch_closed {es : List TEdge} {A : Int → Prop} (h : ∀ x, A x → ∀ y, Ed es x y → A y) {x y : Int} (hx : A x) (hr : Rch es x y) : A y := by
  rcases hr with rfl | hr
  · exact hx
  · exact tc_closed h hx hr

/-! ### What is not visited yet -/
def wh (W : Int → Int) : Nat → Nat
  | 0 => 0
  | p + 1 => wh W p + if W (p : Int) = 0 then 1 else 0
theorem wh_le (W : Int → Int) : ∀ n, wh W n ≤ n
  | 0 => Nat.le_refl _
  | n + 1 => by have := wh_le W n; rw [wh]; split <;> omega
theorem wh_put {W : Int → Int} {k v : Int} (h : W k = 0) (hv : v ≠ 0) (h0 : 0 ≤ k) : ∀ n : Nat, wh W n = wh (fun i => if i = k then v else W i) n + if k < n then 1 else 0
  | 0 => by rw [if_neg (by omega)]; rfl
  | n + 1 => by
    rw [wh, wh, wh_put h hv h0 n]
    by_cases e : (n : Int) = k
    · rw [if_neg (show ¬ k < ((n : Nat) : Int) by omega), if_pos (show k < ((n + 1 : Nat) : Int) by omega), if_pos e, if_neg hv, e, if_pos h]
    · rw [if_neg e]
      by_cases c : k < n
      · rw [if_pos c, if_pos (show k < ((n + 1 : Nat) : Int) by omega)]; omega
      · rw [if_neg c, if_neg (show ¬ k < ((n + 1 : Nat) : Int) by omega)]; omega
theorem wh_pos {W : Int → Int} {k : Int} (h : W k = 0) (h0 : 0 ≤ k) {n : Nat} (hk : k < n) : 0 < wh W n := by
  have := wh_put (v := 1) h (by decide) h0 n
  rw [if_pos hk] at this
  omega

/-! ### The walker's state -/
structure St where
  W : Int → Int
  s : List Int
  P : List (List Int)
  t : Int
structure Inv (n : Nat) (es : List TEdge) (G : List Int) (σ : St) : Prop where
  wb : ∀ x, 0 ≤ σ.W x ∧ σ.W x ≤ σ.t
  vis : ∀ x, σ.W x ≠ 0 → 0 ≤ x ∧ x < n
  cnt : σ.t + (wh σ.W n : Int) = n
  inr : ∀ x ∈ σ.s, σ.W x ≠ 0
  asc : σ.s.Pairwise fun x y => σ.W x < σ.W y
  gs : ∀ g ∈ G, g ∈ σ.s
  rg : ∀ g ∈ G, ∀ x ∈ σ.s, σ.W g ≤ σ.W x → Rch es g x
  back : ∀ x ∈ σ.s, ∃ g ∈ G, σ.W g ≤ σ.W x ∧ Rch es x g
  blk : ∀ x ∈ σ.s, x ∉ G → ∀ y, Ed es x y → σ.W y ≠ 0
  dcl : ∀ x, σ.W x ≠ 0 → x ∉ σ.s → ∀ y, Ed es x y → σ.W y ≠ 0 ∧ y ∉ σ.s
  pcov : ∀ x, (σ.W x ≠ 0 ∧ x ∉ σ.s) ↔ ∃ p ∈ σ.P, x ∈ p
  pok : ∀ p ∈ σ.P, p ≠ [] ∧ p.Pairwise (· < ·) ∧ ∀ x ∈ p, ∀ y, y ∈ p ↔ Rch es x y ∧ Rch es y x
  pdj : σ.P.Pairwise fun p q => ∀ x ∈ p, x ∉ q
  plen : σ.P.length + σ.s.length + wh σ.W n ≤ n
structure Post (n : Nat) (es : List TEdge) (G : List Int) (σ : St) (L : Int → Int) (k : Int) (σ' : St) (L' : Int → Int) : Prop where
  inv : Inv n es G σ'
  ext : ∀ x, σ.W x ≠ 0 → σ'.W x = σ.W x ∧ L' x = L x
  seen : σ'.W k = σ.t + 1
  str : ∃ T, σ'.s = σ.s ++ T ∧ (∀ x ∈ T, σ.W x = 0) ∧ ((∃ y ∈ σ.s, σ.W y = L' k ∧ Rch es k y) ∨ L' k = σ'.W k) ∧ ∀ x ∈ T, ∀ y, Ed es x y → y ∈ σ.s → L' k ≤ σ.W y
/-- At a node, when so many of its edges are done. -/
structure Lv (n : Nat) (es : List TEdge) (G : List Int) (σ : St) (L : Int → Int) (k : Int) (j : Nat) (τ : St) (M : Int → Int) : Prop where
  inv : Inv n es (k :: G) τ
  ext : ∀ x, σ.W x ≠ 0 → τ.W x = σ.W x ∧ M x = L x
  seen : τ.W k = σ.t + 1
  lo : M k ≤ τ.W k
  hi : ∃ y, (y = k ∨ y ∈ σ.s) ∧ τ.W y = M k ∧ Rch es k y
  str : ∃ T, τ.s = σ.s ++ k :: T ∧ (∀ x ∈ T, σ.W x = 0) ∧ ∀ x ∈ T, ∀ y, Ed es x y → y ∈ σ.s → M k ≤ σ.W y
  old : ∀ y ∈ (suc es k).take j, τ.W y ≠ 0 ∧ (y ∈ σ.s → M k ≤ σ.W y)
def ins (f : Int → Int) (k v : Int) : Int → Int := fun i => if i = k then v else f i
theorem ins_at (f : Int → Int) (k v : Int) : ins f k v k = v := if_pos rfl
theorem ins_ne {f : Int → Int} {k v x : Int} (h : x ≠ k) : ins f k v x = f x := if_neg h
theorem Inv.nodup {n : Nat} {es : List TEdge} {G : List Int} {σ : St} (h : Inv n es G σ) : σ.s.Nodup :=
  h.asc.imp fun {a b} h e => by rw [e] at h; omega
theorem Inv.tle {n : Nat} {es : List TEdge} {G : List Int} {σ : St} (h : Inv n es G σ) : 0 ≤ σ.t ∧ σ.t ≤ n := by
  have h1 := h.cnt
  have h2 := h.wb 0
  omega

theorem begin_ok {n : Nat} {es : List TEdge} {G : List Int} {σ : St} {L : Int → Int} {k : Int} (h : Inv n es G σ) (hk : σ.W k = 0) (h0 : 0 ≤ k) (h1 : k < n) (hg : ∀ g ∈ G, Rch es g k) :
    Lv n es G σ L k 0 ⟨ins σ.W k (σ.t + 1), σ.s ++ [k], σ.P, σ.t + 1⟩ (ins L k (σ.t + 1)) := by
  have ht := h.tle
  have hks : k ∉ σ.s := fun q => h.inr k q hk
  have hne : ∀ {x}, σ.W x ≠ 0 → x ≠ k := fun q e => q (by rw [e]; exact hk)
  have hin : ∀ {x}, σ.W x ≠ 0 → ins σ.W k (σ.t + 1) x = σ.W x := fun q => ins_ne (hne q)
  have hsn : ∀ {x}, x ∈ σ.s → ins σ.W k (σ.t + 1) x = σ.W x := fun q => hin (h.inr _ q)
  have hnz : ∀ {x}, σ.W x ≠ 0 → ins σ.W k (σ.t + 1) x ≠ 0 := fun q => by rw [hin q]; exact q
  have hz : ∀ {x}, ins σ.W k (σ.t + 1) x ≠ 0 → x ≠ k → σ.W x ≠ 0 := fun q c => by rw [ins_ne c] at q; exact q
  have hwh := wh_put (v := σ.t + 1) hk (by omega) h0 n
  rw [if_pos h1] at hwh
  have hwh' : wh σ.W n = wh (ins σ.W k (σ.t + 1)) n + 1 := hwh
  have hmem : ∀ {x}, x ∈ σ.s ++ [k] ↔ x ∈ σ.s ∨ x = k := fun {x} => by rw [List.mem_append, List.mem_singleton]
  refine ⟨⟨fun x => ?_, fun x hx => ?_, ?_, fun x hx => ?_, ?_, fun g hgm => ?_, fun g hgm x hx hw => ?_, fun x hx => ?_, fun x hx hxg y hy => ?_, fun x hx hxs y hy => ?_, fun x => ?_, h.pok, h.pdj, ?_⟩, fun x hx => ⟨hin hx, ins_ne (hne hx)⟩, ins_at .., ?_, ⟨k, .inl rfl, ?_, Rch.refl k⟩, ⟨[], rfl, by simp, by simp⟩, by simp⟩
  · show 0 ≤ ins σ.W k (σ.t + 1) x ∧ ins σ.W k (σ.t + 1) x ≤ σ.t + 1
    by_cases c : x = k
    · rw [c, ins_at]; omega
    · rw [ins_ne c]; have := h.wb x; omega
  · by_cases c : x = k
    · rw [c]; exact ⟨h0, h1⟩
    · exact h.vis x (hz hx c)
  · have := h.cnt
    show σ.t + 1 + (wh (ins σ.W k (σ.t + 1)) n : Int) = n
    omega
  · rcases hmem.1 hx with hx | hx
    · exact hnz (h.inr x hx)
    · rw [hx]; show ins σ.W k (σ.t + 1) k ≠ 0; rw [ins_at]; omega
  · show (σ.s ++ [k]).Pairwise fun x y => ins σ.W k (σ.t + 1) x < ins σ.W k (σ.t + 1) y
    rw [List.pairwise_append]
    refine ⟨List.Pairwise.imp_of_mem (fun {a b} ha hb hab => ?_) h.asc, by simp, fun a ha b hb => ?_⟩
    · rw [hsn ha, hsn hb]; exact hab
    · rw [List.mem_singleton] at hb
      rw [hsn ha, hb, ins_at]
      have := h.wb a
      omega
  · rcases List.mem_cons.1 hgm with e | e
    · exact hmem.2 (.inr e)
    · exact hmem.2 (.inl (h.gs g e))
  · have hw' : ins σ.W k (σ.t + 1) g ≤ ins σ.W k (σ.t + 1) x := hw
    rcases List.mem_cons.1 hgm with e | e
    · rcases hmem.1 hx with hx | hx
      · rw [e, ins_at, hsn hx] at hw'
        have := h.wb x
        omega
      · rw [e, hx]; exact Rch.refl k
    · rcases hmem.1 hx with hx | hx
      · rw [hsn hx, hsn (h.gs g e)] at hw'
        exact h.rg g e x hx hw'
      · rw [hx]; exact hg g e
  · rcases hmem.1 hx with hx | hx
    · obtain ⟨g, h2, h3, h4⟩ := h.back x hx
      refine ⟨g, List.mem_cons_of_mem _ h2, ?_, h4⟩
      show ins σ.W k (σ.t + 1) g ≤ ins σ.W k (σ.t + 1) x
      rw [hsn hx, hsn (h.gs g h2)]
      exact h3
    · rw [hx]; exact ⟨k, List.mem_cons_self .., Int.le_refl _, Rch.refl k⟩
  · rw [List.mem_cons, not_or] at hxg
    rcases hmem.1 hx with hx | hx
    · exact hnz (h.blk x hx hxg.2 y hy)
    · exact absurd hx hxg.1
  · have hxs' : x ∉ σ.s ++ [k] := hxs
    rw [hmem, not_or] at hxs'
    obtain ⟨h2, h3⟩ := h.dcl x (hz hx hxs'.2) hxs'.1 y hy
    refine ⟨hnz h2, ?_⟩
    show y ∉ σ.s ++ [k]
    rw [hmem, not_or]
    exact ⟨h3, hne h2⟩
  · rw [← h.pcov x]
    show (ins σ.W k (σ.t + 1) x ≠ 0 ∧ x ∉ σ.s ++ [k]) ↔ _
    rw [hmem, not_or]
    constructor
    · rintro ⟨q1, q2, q3⟩; exact ⟨hz q1 q3, q2⟩
    · rintro ⟨q1, q2⟩; exact ⟨hnz q1, q2, hne q1⟩
  · have := h.plen
    show σ.P.length + (σ.s ++ [k]).length + wh (ins σ.W k (σ.t + 1)) n ≤ n
    rw [List.length_append, List.length_singleton]
    omega
  · rw [ins_at]; show σ.t + 1 ≤ ins σ.W k (σ.t + 1) k; rw [ins_at]; exact Int.le_refl _
  · rw [ins_at]; exact ins_at ..

/-- A node of the stack that came before this one was on the stack when this one's visit began. -/
theorem Lv.before {n : Nat} {es : List TEdge} {G : List Int} {σ τ : St} {L M : Int → Int} {k x : Int} {j : Nat} (h : Lv n es G σ L k j τ M) (hx : x ∈ τ.s) (hw : τ.W x < τ.W k) : x ∈ σ.s := by
  obtain ⟨T, h1, _, _⟩ := h.str
  have ha := h.inv.asc
  rw [h1, List.pairwise_append] at ha
  rw [h1, List.mem_append, List.mem_cons] at hx
  rcases hx with hx | hx | hx
  · exact hx
  · rw [hx] at hw; omega
  · have := (List.pairwise_cons.1 ha.2.1).1 x hx
    omega
theorem Lv.kz {n : Nat} {es : List TEdge} {G : List Int} {σ τ : St} {L M : Int → Int} {k : Int} {j : Nat} (h : Lv n es G σ L k j τ M) (hσ : Inv n es G σ) : σ.W k = 0 := by
  by_cases c : σ.W k = 0
  · exact c
  · have h1 := (h.ext k c).1
    have h2 := h.seen
    have h3 := hσ.wb k
    omega
end Go.Proofs.Ytjhcdmcikodgkaa
