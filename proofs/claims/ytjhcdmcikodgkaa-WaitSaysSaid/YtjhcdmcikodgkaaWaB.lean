/-
  Victims and the rule: both answers, and the law's model answers true.
  Conditions: none.
-/
import Derived.Test.YtjhcdmcikodgkaaWaA
namespace Go.Proofs.Ytjhcdmcikodgkaa
open Go.S
set_option linter.unusedVariables false
set_option linter.unusedSimpArgs false
variable {n : Nat} {es : List TEdge}

/-! ### The greatest of a part -/
def lst (p : List Int) : Int := (p[p.length - 1]?).getD 0
theorem lst_get {p : List Int} (h : p ≠ []) : ∃ h1 : p.length - 1 < p.length, lst p = p[p.length - 1] := by
  have h1 : p.length - 1 < p.length := by
    have := List.length_pos_iff.2 h
    omega
  exact ⟨h1, by rw [lst, List.getElem?_eq_getElem h1, Option.getD_some]⟩
theorem idx_lst {p : List Int} (h : p ≠ []) : idx p ((p.length - 1 : Nat) : Int) = some (lst p) := by
  obtain ⟨h1, h2⟩ := lst_get h
  rw [idx_ok h1, h2]
theorem lst_mem {p : List Int} (h : p ≠ []) : lst p ∈ p := by
  obtain ⟨h1, h2⟩ := lst_get h
  rw [h2]
  exact List.getElem_mem h1
theorem lst_max {p : List Int} (h : p.Pairwise (· < ·)) {x : Int} (hx : x ∈ p) : x ≤ lst p := by
  obtain ⟨h1, h2⟩ := lst_get (List.ne_nil_of_mem hx)
  obtain ⟨i, hi, rfl⟩ := List.getElem_of_mem hx
  rw [h2]
  by_cases c : i = p.length - 1
  · subst c; exact Int.le_refl _
  · exact Int.le_of_lt (List.pairwise_iff_getElem.1 h i (p.length - 1) hi h1 (by omega))

/-! ### The worst of all parts -/
def selfE (h : Int) (e : TEdge) : Bool := decide (e.From = e.To) && decide (e.From = h)
def qual (left : List TEdge) (p : List Int) : Bool := left.any (selfE (hd0 p)) || decide (1 < p.length)
def worst (left : List TEdge) : List (List Int) → Int → Int
  | [], w => w
  | p :: P, w => worst left P (if qual left p = true then max w (lst p) else w)
theorem worst_spec (left : List TEdge) : ∀ (P : List (List Int)) (w : Int), w ≤ worst left P w ∧ (worst left P w = w ∨ ∃ p ∈ P, qual left p = true ∧ worst left P w = lst p) ∧ ∀ p ∈ P, qual left p = true → lst p ≤ worst left P w
  | [], w => ⟨Int.le_refl _, .inl rfl, by simp⟩
  | p :: P, w => by
    obtain ⟨h1, h2, h3⟩ := worst_spec left P (if qual left p = true then max w (lst p) else w)
    rw [worst]
    by_cases c : qual left p = true
    · rw [if_pos c] at h1 h2 h3 ⊢
      have m1 : w ≤ max w (lst p) := Int.le_max_left ..
      have m2 : lst p ≤ max w (lst p) := Int.le_max_right ..
      refine ⟨Int.le_trans m1 h1, ?_, fun q hq hc => ?_⟩
      · rcases h2 with h2 | ⟨q, q1, q2, q3⟩
        · by_cases e : lst p ≤ w
          · rw [Int.max_eq_left e] at h2; rw [Int.max_eq_left e]; exact .inl h2
          · rw [Int.max_eq_right (by omega)] at h2; rw [Int.max_eq_right (by omega)]; exact .inr ⟨p, List.mem_cons_self .., c, h2⟩
        · exact .inr ⟨q, List.mem_cons_of_mem _ q1, q2, q3⟩
      · rcases List.mem_cons.1 hq with e | e
        · rw [e]; exact Int.le_trans m2 h1
        · exact h3 q e hc
    · rw [if_neg c] at h1 h2 h3 ⊢
      refine ⟨h1, ?_, fun q hq hc => ?_⟩
      · rcases h2 with h2 | ⟨q, q1, q2, q3⟩
        · exact .inl h2
        · exact .inr ⟨q, List.mem_cons_of_mem _ q1, q2, q3⟩
      · rcases List.mem_cons.1 hq with e | e
        · rw [e] at hc; exact absurd hc c
        · exact h3 q e hc
def rworst (C : Int → Int → Bool) : Nat → Nat → Int → Int
  | _, 0, w => w
  | i, r + 1, w => rworst C (i + 1) r (if C i i = true then (i : Int) else w)
theorem rworst_spec (C : Int → Int → Bool) : ∀ (r i : Nat) (w : Int), w < i → w ≤ rworst C i r w ∧ (rworst C i r w = w ∨ ∃ k : Int, (i : Int) ≤ k ∧ k < i + r ∧ C k k = true ∧ rworst C i r w = k) ∧ ∀ k : Int, (i : Int) ≤ k → k < i + r → C k k = true → k ≤ rworst C i r w
  | 0, i, w, h => ⟨Int.le_refl _, .inl rfl, fun k h1 h2 => by omega⟩
  | r + 1, i, w, h => by
    obtain ⟨h1, h2, h3⟩ := rworst_spec C r (i + 1) (if C i i = true then (i : Int) else w) (by split <;> omega)
    rw [rworst]
    by_cases c : C i i = true
    · rw [if_pos c] at h1 h2 h3 ⊢
      refine ⟨by omega, ?_, fun k k1 k2 k3 => ?_⟩
      · rcases h2 with h2 | ⟨k, k1, k2, k3⟩
        · exact .inr ⟨i, by omega, by omega, c, h2⟩
        · exact .inr ⟨k, by omega, by omega, k3⟩
      · by_cases e : k = i
        · rw [e]; exact h1
        · exact h3 k (by omega) (by omega) k3
    · rw [if_neg c] at h1 h2 h3 ⊢
      refine ⟨h1, ?_, fun k k1 k2 k3 => ?_⟩
      · rcases h2 with h2 | ⟨k, k1, k2, k3⟩
        · exact .inl h2
        · exact .inr ⟨k, by omega, by omega, k3⟩
      · by_cases e : k = i
        · rw [e] at k3; exact absurd k3 c
        · exact h3 k (by omega) (by omega) k3
theorem tc_head {i j : Int} (h : TC es i j) : ∃ y, Ed es i y ∧ Rch es y j := by
  induction h with
  | single h1 => exact ⟨_, h1, Rch.refl _⟩
  | tail _ h1 ih =>
    obtain ⟨y, h2, h3⟩ := ih
    exact ⟨y, h2, h3.trans (Rch.edge h1)⟩
theorem worst_eq (hR : InR n es) (C : Int → Int → Bool) (hC : ∀ i j, C i j = true ↔ TC es i j) : worst es (refParts n C 0 n) (-1) = rworst C 0 n (-1) := by
  obtain ⟨h1, h2, h3⟩ := worst_spec es (refParts n C 0 n) (-1)
  obtain ⟨g1, g2, g3⟩ := rworst_spec C n 0 (-1) (by omega)
  refine Int.le_antisymm ?_ ?_
  · rcases h2 with h2 | ⟨p, p1, p2, p3⟩
    · rw [h2]; exact g1
    · rw [p3]
      obtain ⟨q, q1, q2, _, rfl⟩ := (refParts_mem n 0).1 p1
      have hne : part n C q ≠ [] := List.ne_nil_of_mem (part_mem.2 ⟨by omega, by omega, .inl rfl⟩ : q ∈ part n C q)
      have hl := lst_mem hne
      obtain ⟨l0, l1, _⟩ := part_mem.1 hl
      -- all of one part come to one another
      have hmut : ∀ x ∈ part n C q, ∀ y ∈ part n C q, x = y ∨ TC es x y := by
        intro x hx y hy
        obtain ⟨_, _, a⟩ := part_mem.1 hx
        obtain ⟨_, _, b⟩ := part_mem.1 hy
        rcases a with a | ⟨a1, a2⟩
        · rcases b with b | ⟨b1, b2⟩
          · exact .inl (a.trans b.symm)
          · rw [a]; exact .inr ((hC _ _).1 b2)
        · rcases b with b | ⟨b1, b2⟩
          · rw [b]; exact .inr ((hC _ _).1 a1)
          · exact .inr (((hC _ _).1 a1).trans ((hC _ _).1 b2))
      have hback : ∀ y ∈ part n C q, y ≠ lst (part n C q) → C (lst (part n C q)) (lst (part n C q)) = true := by
        intro y hy hne2
        rcases hmut _ hl y hy with e | e
        · exact absurd e.symm hne2
        · rcases hmut y hy _ hl with e2 | e2
          · exact absurd e2 hne2
          · exact (hC _ _).2 (TC.trans e e2)
      refine g3 _ (by omega) (by omega) ?_
      rw [qual, Bool.or_eq_true] at p2
      rcases p2 with p2 | p2
      · obtain ⟨e, e1, e2⟩ := List.any_eq_true.1 p2
        rw [selfE, Bool.and_eq_true] at e2
        have e3 := of_decide_eq_true e2.1
        have e4 := of_decide_eq_true e2.2
        have hh := hd0_mem hne
        by_cases c : hd0 (part n C q) = lst (part n C q)
        · rw [← c]
          refine (hC _ _).2 (.single ?_)
          have : (⟨e.From, e.To⟩ : TEdge) ∈ es := e1
          rw [← e3, e4] at this
          exact this
        · exact hback _ hh c
      · have hlen := of_decide_eq_true p2
        have hlt := selI_lt (P := fun i => decide (i = q) || C i q && C q i) n 0
        have hp : part n C q = selI (fun i => decide (i = q) || C i q && C q i) 0 n := rfl
        rw [← hp] at hlt
        obtain ⟨z1, z2⟩ := lst_get hne
        refine hback ((part n C q)[0]'(by omega)) (List.getElem_mem _) ?_
        rw [z2]
        have := List.pairwise_iff_getElem.1 hlt 0 ((part n C q).length - 1) (by omega) z1 (by omega)
        omega
  · rcases g2 with g2 | ⟨k, k1, k2, k3, k4⟩
    · rw [g2]; exact h1
    · rw [k4]
      have hk : k ∈ part n C k := part_mem.2 ⟨by omega, by omega, .inl rfl⟩
      have hne := List.ne_nil_of_mem hk
      have hlt := selI_lt (P := fun i => decide (i = k) || C i k && C k i) n 0
      have hp : part n C k = selI (fun i => decide (i = k) || C i k && C k i) 0 n := rfl
      rw [← hp] at hlt
      have hm := hd0_mem hne
      -- the part of the head is the part
      have hsame : part n C (hd0 (part n C k)) = part n C k := by
        obtain ⟨_, _, a⟩ := part_mem.1 hm
        rcases a with a | ⟨a1, a2⟩
        · rw [a]
        · refine uniq id _ _ (selI_lt n 0) hlt fun x => ?_
          rw [part_mem, part_mem]
          have tr : ∀ {x y z : Int}, C x y = true → C y z = true → C x z = true := fun p q => (hC _ _).2 (TC.trans ((hC _ _).1 p) ((hC _ _).1 q))
          constructor
          · rintro ⟨x0, x1, x2⟩
            refine ⟨x0, x1, ?_⟩
            rcases x2 with x2 | ⟨x2, x3⟩
            · rw [x2]; exact .inr ⟨a1, a2⟩
            · exact .inr ⟨tr x2 a1, tr a2 x3⟩
          · rintro ⟨x0, x1, x2⟩
            refine ⟨x0, x1, ?_⟩
            rcases x2 with x2 | ⟨x2, x3⟩
            · rw [x2]; exact .inr ⟨a2, a1⟩
            · exact .inr ⟨tr x2 a2, tr a1 x3⟩
      have hin : part n C k ∈ refParts n C 0 n := by
        obtain ⟨m0, m1, _⟩ := part_mem.1 hm
        exact (refParts_mem n 0).2 ⟨hd0 (part n C k), by omega, by omega, by rw [hsame], hsame.symm⟩
      refine Int.le_trans (lst_max hlt hk) (h3 _ hin ?_)
      rw [qual, Bool.or_eq_true]
      obtain ⟨y, y1, y2⟩ := tc_head ((hC k k).1 k3)
      by_cases c : 1 < (part n C k).length
      · exact .inr (decide_eq_true c)
      · left
        -- alone: an edge to itself
        have hpos := List.length_pos_iff.2 hne
        obtain ⟨a, ha⟩ : ∃ a, part n C k = [a] := List.length_eq_one_iff.1 (by omega)
        have hka : k = a := by rw [ha] at hk; exact List.mem_singleton.1 hk
        have hyk : y = k := by
          rcases y2 with e | e
          · exact e
          · obtain ⟨_, _, r1, r2⟩ := hR _ y1
            have : y ∈ part n C k := part_mem.2 ⟨r1, r2, .inr ⟨(hC _ _).2 e, (hC _ _).2 (.single y1)⟩⟩
            rw [ha] at this
            rw [hka]
            exact List.mem_singleton.1 this
        rw [hyk] at y1
        refine List.any_eq_true.2 ⟨⟨k, k⟩, y1, ?_⟩
        rw [selfE, ha]
        simp [hd0, hka]

/-! ### The program's loops -/
theorem selfL {left : List TEdge} (hl : left.length ≤ 2000) {p : List Int} (hp : p ≠ []) (g : Int) (go4 : Int → Int → Option (List Int × Int)) (w : Int) : ∀ (r i : Nat), i + r = left.length → ∀ m, r < m →
    m16_wait_Victims_L5 left p g go4 w m (i : Int) = m16_wait_Victims_K13 p g go4 w ((left.drop i).any (selfE (hd0 p))) := by
  have h14 : ∀ b : Bool, m16_wait_Victims_K14 p g go4 w b = m16_wait_Victims_K13 p g go4 w b := fun b => by
    rw [m16_wait_Victims_K14]
    cases b with
    | true => rw [if_pos rfl]
    | false => rw [if_neg ff]
  intro r
  induction r with
  | zero =>
    intro i hi m hm
    obtain ⟨m, rfl⟩ := dec m hm
    rw [m16_wait_Victims_L5, m16_wait_Victims_L5B, if_neg (by omega), m16_wait_Victims_K16, m16_wait_Victims_K15, h14, List.drop_eq_nil_of_le (by omega)]
    rfl
  | succ r ih =>
    intro i hi m hm
    obtain ⟨m, rfl⟩ := dec m (by omega)
    have h1 : i < left.length := by omega
    have no : selfE (hd0 p) left[i] = false → bind1 (i64 ((i : Int) + 1)) (fun x56 => m16_wait_Victims_L5 left p g go4 w m x56) = m16_wait_Victims_K13 p g go4 w ((left.drop i).any (selfE (hd0 p))) := fun c => by
      rw [isucc i (by omega), bind1_some, ih (i + 1) (by omega) m (by omega), drop_cons h1, List.any_cons, c, Bool.false_or]
    rw [m16_wait_Victims_L5, m16_wait_Victims_L5B, if_pos (by omega), idx_ok h1, bind1_some]
    by_cases c : left[i].From = left[i].To
    · rw [if_pos c, idx_hd hp, bind1_some, m16_wait_Victims_K17]
      by_cases c2 : left[i].From = hd0 p
      · rw [if_pos (decide_eq_true c2), m16_wait_Victims_K15, decide_eq_true (show (0 : Int) ≤ (i : Int) by omega), h14, drop_cons h1, List.any_cons]
        have : selfE (hd0 p) left[i] = true := by rw [selfE, decide_eq_true c, decide_eq_true c2]; rfl
        rw [this, Bool.true_or]
      · rw [if_neg (by simp [c2])]
        exact no (by rw [selfE, decide_eq_false c2, Bool.and_false])
    · rw [if_neg c, m16_wait_Victims_K17, if_neg ff]
      exact no (by rw [selfE, decide_eq_false c, Bool.false_and])
theorem k13 {left : List TEdge} {p : List Int} (hp : p ≠ []) (hl : p.length ≤ 1000000) (g : Int) (go4 : Int → Int → Option (List Int × Int)) (w : Int) :
    m16_wait_Victims_K13 p g go4 w (left.any (selfE (hd0 p))) = m16_wait_Victims_K12 g go4 (if qual left p = true then max w (lst p) else w) := by
  have hpos := List.length_pos_iff.2 hp
  rw [m16_wait_Victims_K13, qual]
  by_cases c : left.any (selfE (hd0 p)) = true
  · rw [if_pos c, c, Bool.true_or, if_pos rfl, ipred _ hpos (by omega), bind1_some, idx_lst hp, bind1_some]
    split <;> rfl
  · rw [if_neg c, Bool.eq_false_iff.2 c, Bool.false_or]
    by_cases c2 : 1 < p.length
    · rw [if_pos (by omega), ipred _ hpos (by omega), bind1_some, idx_lst hp, bind1_some, if_pos (decide_eq_true c2)]
    · rw [if_neg (by omega), if_neg (by simpa using c2)]
theorem worstL {left : List TEdge} (hl : left.length ≤ 2000) {P : List (List Int)} (hP : P.length ≤ 1000000) (hp : ∀ p ∈ P, p ≠ [] ∧ p.length ≤ 1000000) (out : List Int) (go1 : List TEdge → List Int → Option (List Int × Int)) : ∀ (r i : Nat), i + r = P.length → ∀ (w : Int) m, r < m →
    m16_wait_Victims_L4 P left out go1 m (i : Int) w = m16_wait_Victims_K2 out left go1 (worst left (P.drop i) w) := by
  intro r
  induction r with
  | zero =>
    intro i hi w m hm
    obtain ⟨m, rfl⟩ := dec m hm
    rw [m16_wait_Victims_L4, m16_wait_Victims_L4B, if_neg (by omega), List.drop_eq_nil_of_le (by omega), worst]
  | succ r ih =>
    intro i hi w m hm
    obtain ⟨m, rfl⟩ := dec m (by omega)
    have h1 : i < P.length := by omega
    obtain ⟨hne, hpl⟩ := hp P[i] (List.getElem_mem h1)
    have h2 := selfL hl hne (i : Int) (m16_wait_Victims_L4 P left out go1 m) w left.length 0 (by omega) big (lt_big (by omega))
    rw [show ((0 : Nat) : Int) = 0 from rfl, List.drop_zero] at h2
    rw [m16_wait_Victims_L4, m16_wait_Victims_L4B, if_pos (by omega), idx_ok h1, bind1_some, h2, k13 hne hpl, m16_wait_Victims_K12, isucc i (by omega), bind1_some, ih (i + 1) (by omega) _ m (by omega), drop_cons h1, worst]
theorem rworstL (hn : n ≤ 60) (C : Int → Int → Bool) (out : List Int) (left : List TEdge) (go1 : List Int → List TEdge → Option (List Int)) : ∀ (r i : Nat), i + r = n → ∀ (w : Int) m, r < m →
    m19_quirref_Victims_L4 (n : Int) (tt n C) out left go1 m (i : Int) w = m19_quirref_Victims_K1 out left go1 (rworst C i r w) := by
  intro r
  induction r with
  | zero =>
    intro i hi w m hm
    obtain ⟨m, rfl⟩ := dec m hm
    rw [m19_quirref_Victims_L4, m19_quirref_Victims_L4B, if_neg (by omega), rworst]
  | succ r ih =>
    intro i hi w m hm
    obtain ⟨m, rfl⟩ := dec m (by omega)
    have i0 : (0 : Int) ≤ (i : Int) := by omega
    have i1 : (i : Int) < (n : Nat) := by omega
    rw [m19_quirref_Victims_L4, m19_quirref_Victims_L4B, if_pos i1, tt_idx i0 i1, bind1_some, tab_idx i0 i1, bind1_some, rworst]
    by_cases c : C i i = true
    · rw [if_pos c, if_pos c, isucc i (by omega), bind1_some, ih (i + 1) (by omega) _ m (by omega)]
    · rw [if_neg c, if_neg c, isucc i (by omega), bind1_some, ih (i + 1) (by omega) _ m (by omega)]
def apart (w : Int) (e : TEdge) : Bool := !(decide (e.From = w) || decide (e.To = w))
theorem cutP {left : List TEdge} (hl : left.length ≤ 2000) (w : Int) (out : List Int) (go1 : List TEdge → List Int → Option (List Int × Int)) : m16_wait_Victims_L3 left w go1 out big 0 = go1 (left.filter (apart w)) out := by
  have b9 : ∀ {ρ : Type} (e : TEdge) (f : Bool → ρ), (if e.From = w then f true else f (decide (e.To = w))) = f (decide (e.From = w) || decide (e.To = w)) := fun e f => by
    by_cases c : e.From = w
    · rw [if_pos c, decide_eq_true c, Bool.true_or]
    · rw [if_neg c, decide_eq_false c, Bool.false_or]
  refine delS_all (F1 := fun m i (_ : Unit) => m16_wait_Victims_L3 left w go1 out m i) (F := fun m l i j _ => m16_wait_Victims_L2 w go1 out m l i j) (l0 := left) (keep := apart w) (z := ⟨0, 0⟩) (S := fun _ => ()) (by omega) (fun l _ => go1 l out) (fun m l i hl2 => ?_) (fun m l i j hj hj0 hl2 hlj => ?_) (fun m => ?_) (fun m i hi => ?_)
  · show m16_wait_Victims_L2 w go1 out (m + 1) l (i : Int) (l.length : Int) = _
    rw [m16_wait_Victims_L2, m16_wait_Victims_L2B, if_neg (by omega), m16_wait_Victims_K7]
    rfl
  · show m16_wait_Victims_L2 w go1 out (m + 1) l (i : Int) (j : Int) = _
    rw [m16_wait_Victims_L2, m16_wait_Victims_L2B, if_pos (by omega), m16_wait_Victims_K8, idx_ok hj, bind1_some, b9, m16_wait_Victims_K9, hlj, apart]
    cases (decide (left[j].From = w) || decide (left[j].To = w)) with
    | true => rw [if_pos rfl, if_neg (by simp)]
    | false => rw [if_neg ff, if_pos (by simp)]
  · show m16_wait_Victims_L3 left w go1 out (m + 1) (left.length : Int) = _
    rw [m16_wait_Victims_L3, m16_wait_Victims_L3B, if_neg (by omega), m16_wait_Victims_K10, m16_wait_Victims_K5, if_pos rfl, m16_wait_Victims_K4]
  · show m16_wait_Victims_L3 left w go1 out (m + 1) (i : Int) = _
    rw [m16_wait_Victims_L3, m16_wait_Victims_L3B, if_pos (by omega), idx_ok hi, bind1_some, b9, m16_wait_Victims_K11, apart]
    cases (decide (left[i].From = w) || decide (left[i].To = w)) with
    | true => rw [if_pos rfl, if_neg (by simp), m16_wait_Victims_K5, if_neg (by omega), m16_wait_Victims_K6]
    | false => rw [if_neg ff, if_pos (by simp)]
theorem cutR {left : List TEdge} (hl : left.length ≤ 2000) (w : Int) (out : List Int) (go1 : List Int → List TEdge → Option (List Int)) : m19_quirref_Victims_L3 left w go1 out big 0 = go1 out (left.filter (apart w)) := by
  have b9 : ∀ {ρ : Type} (e : TEdge) (f : Bool → ρ), (if e.From = w then f true else f (decide (e.To = w))) = f (decide (e.From = w) || decide (e.To = w)) := fun e f => by
    by_cases c : e.From = w
    · rw [if_pos c, decide_eq_true c, Bool.true_or]
    · rw [if_neg c, decide_eq_false c, Bool.false_or]
  refine delS_all (F1 := fun m i (_ : Unit) => m19_quirref_Victims_L3 left w go1 out m i) (F := fun m l i j _ => m19_quirref_Victims_L2 w go1 out m l i j) (l0 := left) (keep := apart w) (z := ⟨0, 0⟩) (S := fun _ => ()) (by omega) (fun l _ => go1 out l) (fun m l i hl2 => ?_) (fun m l i j hj hj0 hl2 hlj => ?_) (fun m => ?_) (fun m i hi => ?_)
  · show m19_quirref_Victims_L2 w go1 out (m + 1) l (i : Int) (l.length : Int) = _
    rw [m19_quirref_Victims_L2, m19_quirref_Victims_L2B, if_neg (by omega), m19_quirref_Victims_K6]
    rfl
  · show m19_quirref_Victims_L2 w go1 out (m + 1) l (i : Int) (j : Int) = _
    rw [m19_quirref_Victims_L2, m19_quirref_Victims_L2B, if_pos (by omega), m19_quirref_Victims_K7, idx_ok hj, bind1_some, b9, m19_quirref_Victims_K8, hlj, apart]
    cases (decide (left[j].From = w) || decide (left[j].To = w)) with
    | true => rw [if_pos rfl, if_neg (by simp)]
    | false => rw [if_neg ff, if_pos (by simp)]
  · show m19_quirref_Victims_L3 left w go1 out (m + 1) (left.length : Int) = _
    rw [m19_quirref_Victims_L3, m19_quirref_Victims_L3B, if_neg (by omega), m19_quirref_Victims_K9, m19_quirref_Victims_K4, if_pos rfl, m19_quirref_Victims_K3]
  · show m19_quirref_Victims_L3 left w go1 out (m + 1) (i : Int) = _
    rw [m19_quirref_Victims_L3, m19_quirref_Victims_L3B, if_pos (by omega), idx_ok hi, bind1_some, b9, m19_quirref_Victims_K10, apart]
    cases (decide (left[i].From = w) || decide (left[i].To = w)) with
    | true => rw [if_pos rfl, if_neg (by simp), m19_quirref_Victims_K4, if_neg (by omega), m19_quirref_Victims_K5]
    | false => rw [if_neg ff, if_pos (by simp)]
theorem vict (hn : n ≤ 60) : ∀ (u : Nat) (left : List TEdge) (out : List Int), left.length ≤ u → out.length + left.length ≤ 2000 → InR n left → ∀ m m', u < m → u < m' →
    ∃ z, m16_wait_Victims_L1 (n : Int) m left out = some (z, 0) ∧ m19_quirref_Victims_L1 (n : Int) m' out left = some z ∧ z.length ≤ 2000 := by
  intro u
  induction u with
  | zero =>
    intro left out hu ho hR m m' hm hm'
    obtain rfl : left = [] := List.eq_nil_of_length_eq_zero (by omega)
    obtain ⟨m, rfl⟩ := dec m hm
    obtain ⟨m', rfl⟩ := dec m' hm'
    obtain ⟨C, hC, hCe⟩ := closure_tc n hn [] (by simp) hR
    have hw := worst_eq hR C hC
    have hpl := refParts_len (n := n) (C := C) n 0
    have h4 := worstL (left := []) (by simp) (P := refParts n C 0 n) (by omega) (fun p hp => by
      obtain ⟨q, q1, q2, _, rfl⟩ := (refParts_mem n 0).1 hp
      exact ⟨List.ne_nil_of_mem (part_mem.2 ⟨by omega, by omega, .inl rfl⟩ : q ∈ part n C q), Nat.le_trans (selI_len n 0) (by omega)⟩) out (m16_wait_Victims_L1 (n : Int) m) (refParts n C 0 n).length 0 (by omega) (-1) big (lt_big (by omega))
    have h5 := rworstL hn C out [] (m19_quirref_Victims_L1 (n : Int) m') n 0 (by omega) (-1) big (lt_big (by omega))
    rw [show ((0 : Nat) : Int) = 0 from rfl] at h4 h5
    rw [List.drop_zero, hw] at h4
    have hneg : rworst C 0 n (-1) < 0 := by
      obtain ⟨_, g2, _⟩ := rworst_spec C n 0 (-1) (by omega)
      rcases g2 with g2 | ⟨k, _, _, k3, _⟩
      · omega
      · obtain ⟨y, y1, _⟩ := tc_head ((hC k k).1 k3)
        cases y1
    have hs := srt_length out
    refine ⟨srt out, ?_, ?_, by omega⟩
    · rw [m16_wait_Victims_L1, m16_wait_Victims_L1B, parts_eq hn (by simp) hR C hC, bind2_some, h4, m16_wait_Victims_K2, if_pos hneg, xSort_ok (by omega), bind1_some]
    · rw [m19_quirref_Victims_L1, m19_quirref_Victims_L1B, hCe, bind1_some, h5, m19_quirref_Victims_K1, if_pos hneg, xSort_ok (by omega), bind1_some]
  | succ u ih =>
    intro left out hu ho hR m m' hm hm'
    obtain ⟨m, rfl⟩ := dec m (by omega)
    obtain ⟨m', rfl⟩ := dec m' (by omega)
    have hl : left.length ≤ 2000 := by omega
    obtain ⟨C, hC, hCe⟩ := closure_tc n hn left hl hR
    have hw := worst_eq hR C hC
    have hpl := refParts_len (n := n) (C := C) n 0
    have h4 := worstL (left := left) hl (P := refParts n C 0 n) (by omega) (fun p hp => by
      obtain ⟨q, q1, q2, _, rfl⟩ := (refParts_mem n 0).1 hp
      exact ⟨List.ne_nil_of_mem (part_mem.2 ⟨by omega, by omega, .inl rfl⟩ : q ∈ part n C q), Nat.le_trans (selI_len n 0) (by omega)⟩) out (m16_wait_Victims_L1 (n : Int) m) (refParts n C 0 n).length 0 (by omega) (-1) big (lt_big (by omega))
    have h5 := rworstL hn C out left (m19_quirref_Victims_L1 (n : Int) m') n 0 (by omega) (-1) big (lt_big (by omega))
    rw [show ((0 : Nat) : Int) = 0 from rfl] at h4 h5
    rw [List.drop_zero, hw] at h4
    obtain ⟨_, g2, _⟩ := rworst_spec C n 0 (-1) (by omega)
    have hs := srt_length out
    by_cases hneg : rworst C 0 n (-1) < 0
    · refine ⟨srt out, ?_, ?_, by omega⟩
      · rw [m16_wait_Victims_L1, m16_wait_Victims_L1B, parts_eq hn hl hR C hC, bind2_some, h4, m16_wait_Victims_K2, if_pos hneg, xSort_ok (by omega), bind1_some]
      · rw [m19_quirref_Victims_L1, m19_quirref_Victims_L1B, hCe, bind1_some, h5, m19_quirref_Victims_K1, if_pos hneg, xSort_ok (by omega), bind1_some]
    · obtain ⟨k, k1, k2, k3, k4⟩ := g2.resolve_left (by omega)
      generalize rworst C 0 n (-1) = w at *
      subst k4
      obtain ⟨y, y1, _⟩ := tc_head ((hC w w).1 k3)
      have hlt : (left.filter (apart w)).length < left.length := by
        refine List.length_filter_lt_length_iff_exists.2 ⟨⟨w, y⟩, y1, ?_⟩
        simp [apart]
      obtain ⟨z, z1, z2, z3⟩ := ih (left.filter (apart w)) (out ++ [w]) (by omega) (by simp only [List.length_append, List.length_cons, List.length_nil]; omega) (fun e he => hR e (List.mem_filter.1 he).1) m m' (by omega) (by omega)
      have hap : app out [w] = some (out ++ [w]) := app_ok (by simp only [List.length_cons, List.length_nil]; omega)
      refine ⟨z, ?_, ?_, z3⟩
      · rw [m16_wait_Victims_L1, m16_wait_Victims_L1B, parts_eq hn hl hR C hC, bind2_some, h4, m16_wait_Victims_K2, if_neg hneg, m16_wait_Victims_K3, hap, bind1_some, cutP hl, z1]
      · rw [m19_quirref_Victims_L1, m19_quirref_Victims_L1B, hCe, bind1_some, h5, m19_quirref_Victims_K1, if_neg hneg, m19_quirref_Victims_K2, hap, bind1_some, cutR hl, z2]
theorem vict_eq (hn : n ≤ 60) (hl : es.length ≤ 2000) (hR : InR n es) : ∃ z, m16_wait_Victims (n : Int) es = some (z, 0) ∧ m19_quirref_Victims (n : Int) es = some z ∧ z.length ≤ 2000 := by
  obtain ⟨z, h1, h2, h3⟩ := vict hn es.length es [] (Nat.le_refl _) (by simp only [List.length_nil]; omega) hR big big (lt_big (by omega)) (lt_big (by omega))
  have hcl : m26_api_Edge es = some es := by
    rw [m26_api_Edge, app_ok (by simp only [List.length_nil]; omega), bind1_some, List.nil_append]
  refine ⟨z, ?_, ?_, h3⟩
  · rw [m16_wait_Victims, gcheck n hn es hl hR, bind1_some, if_neg (by simp), m16_wait_Victims_K1, hcl, bind1_some, h1]
  · rw [m19_quirref_Victims, hcl, bind1_some, h2]

/-! ### The rule, and the law -/
def ruleR (a2 a3 a4 : Int) : Int × Int := if a2 ≠ 1 ∧ a2 ≠ 2 then (0, 1) else if a3 = a4 then (0, 4) else (if a2 = 1 then (if a4 < a3 then 2 else 1) else if a3 < a4 then 3 else 1, 0)
theorem rule_eq (a2 a3 a4 : Int) : m17_wait_Rule a2 a3 a4 = some (ruleR a2 a3 a4) := by
  unfold ruleR m17_wait_Rule m17_wait_Rule_K1 m17_wait_Rule_K2 m17_wait_Rule_K3 m17_wait_Rule_K7 m17_wait_Rule_K6 m17_wait_Rule_K5 m17_wait_Rule_K4
  by_cases c1 : a2 = 1
  · subst c1
    by_cases c3 : a3 = a4
    · simp [c3]
    · by_cases c4 : a3 < a4
      · have : ¬ a4 < a3 := by omega
        simp [c3, c4, this]
      · have : a4 < a3 := by omega
        simp [c3, c4, this]
  · by_cases c2 : a2 = 2
    · subst c2
      by_cases c3 : a3 = a4
      · simp [c3]
      · by_cases c4 : a3 < a4
        · have : ¬ a4 < a3 := by omega
          simp [c3, c4, this]
        · have : a4 < a3 := by omega
          simp [c3, c4, this]
    · simp [c1, c2]
theorem rule_true (a2 a3 a4 x1 : Int) (l3 : List Int) (x5 : Int) (l7 : List Int) (x9 a0 : Int) (a1 : List TEdge) (h : m4_quirlaw_WaitSays_K1 x1 l3 x5 l7 x9 a0 a1 = some true) :
    (if a2 ≠ 1 then if a2 ≠ 2 then m4_quirlaw_WaitSays_K5 (ruleR a2 a3 a4).1 (ruleR a2 a3 a4).2 x1 l3 x5 l7 x9 a0 a1 a3 a4 a2 true else m4_quirlaw_WaitSays_K5 (ruleR a2 a3 a4).1 (ruleR a2 a3 a4).2 x1 l3 x5 l7 x9 a0 a1 a3 a4 a2 false else m4_quirlaw_WaitSays_K5 (ruleR a2 a3 a4).1 (ruleR a2 a3 a4).2 x1 l3 x5 l7 x9 a0 a1 a3 a4 a2 false) = some true := by
  unfold ruleR m4_quirlaw_WaitSays_K5 m4_quirlaw_WaitSays_K6 m4_quirlaw_WaitSays_K7
  rw [h]
  by_cases c1 : a2 = 1
  · subst c1
    by_cases c3 : a3 = a4
    · simp [c3]
    · by_cases c4 : a4 < a3
      · simp [c3, c4]
      · simp [c3, c4]
  · by_cases c2 : a2 = 2
    · subst c2
      by_cases c3 : a3 = a4
      · simp [c3]
      · by_cases c4 : a3 < a4
        · simp [c3, c4]
        · simp [c3, c4]
    · simp [c1, c2]
theorem wait_true (a0 : Int) (es : List TEdge) (a2 a3 a4 : Int) : m4_quirlaw_WaitSays a0 es a2 a3 a4 = some true := by
  obtain ⟨c, h1, h2, h3⟩ := err_eq a0 es
  rw [m4_quirlaw_WaitSays, h2, bind1_some]
  have hr : m17_wait_Rule a2 a3 a4 = some ((ruleR a2 a3 a4).1, (ruleR a2 a3 a4).2) := rule_eq a2 a3 a4
  by_cases hc : c = 0
  · subst hc
    obtain ⟨n, rfl, hn, hl, hR⟩ := h3 rfl
    obtain ⟨C, hC, hCe⟩ := closure_tc n hn es hl hR
    obtain ⟨z, z1, z2, z3⟩ := vict_eq hn hl hR
    have hsl := selI_len (P := isD n C) n 0
    rw [dead_eq hn hl hR C hC, bind2_some, z1, bind2_some, hr, bind2_some]
    refine rule_true a2 a3 a4 0 _ 0 z 0 (n : Int) es ?_
    rw [m4_quirlaw_WaitSays_K1, if_neg (by simp), m4_quirlaw_WaitSays_K2, rdead_eq hn C hCe, bind1_some, equal_self _ (by omega), bind1_some, if_pos rfl, if_pos rfl, m4_quirlaw_WaitSays_K3, if_pos rfl, z2, bind1_some, equal_self _ (by omega), bind1_some, if_pos rfl]
    rfl
  · have e1 : m15_wait_Dead a0 es = some ([], c) := by rw [m15_wait_Dead, h1, bind1_some, if_pos hc]
    have e2 : m16_wait_Victims a0 es = some ([], c) := by rw [m16_wait_Victims, h1, bind1_some, if_pos hc]
    rw [e1, bind2_some, e2, bind2_some, hr, bind2_some]
    refine rule_true a2 a3 a4 c _ c [] c a0 es ?_
    rw [m4_quirlaw_WaitSays_K1, if_pos hc, if_pos (by simp), if_pos rfl, m4_quirlaw_WaitSays_K4, if_pos rfl, if_pos (by simp)]
    simp
end Go.Proofs.Ytjhcdmcikodgkaa
