/-
  Package tree: Drop, the whole tree, the law.
  Conditions: none.
-/
import Derived.Test.YtdebhhjbgbkbjaaTrM2
namespace Go.Proofs.Ytdebhhjbgbkbjaa
open Go.S
set_option linter.unusedVariables false
set_option linter.unusedSimpArgs false
section
variable {A A' A1 : List Tnode} {h lo hi p : Nat} {i : Int} {kv kv' : List KV} {F F1 : List Nat} {es es1 es2 : List KV} {chs ch1 ch2 : List Ch} {e e' : KV} {k : Int} {t : List UInt8} {u : Tnode} {n : Nat} {a b c d f : Ch} {H : List Nat}
theorem drop_rep (k : Int) : ∀ (h lo : Nat) (i : Int) (kv : List KV) (F : List Nat) (A : List Tnode), Rep A h (lo + 1) 4 i kv F → AscK kv → k ∈ kv.map Prod.fst → F.Nodup → Ok A → h < big → ∀ n, h < n →
    ∃ A', m16_tree_node_dropR n i k A = some A' ∧ Mended A A' h lo i (delK kv k) F := by
  intro h
  induction h with
  | zero =>
    intro lo i kv F A hr ha hk hn ok hbig n hn0
    obtain ⟨n, rfl⟩ := dec n hn0
    obtain ⟨h1, h2, h3, rfl⟩ := hr
    have h0 := idx_some h1
    obtain ⟨es1, es2, rfl, hlt, ⟨hm, _, _⟩ | ⟨t0, rest, rfl, hgt, hf⟩⟩ := find_split k h1 ha (by omega)
    · exact absurd hk hm
    · have hl : (es1 ++ (k, t0) :: rest).length = es1.length + rest.length + 1 := by simp; omega
      have e6 : xDelR (node (es1 ++ (k, t0) :: rest) []).keys_ ((es1.length : Nat) : Int) ((es1.length + 1 : Nat) : Int) = some ((es1 ++ rest).map Prod.fst) := by
        have := delp (es1.map Prod.fst) (rest.map Prod.fst) k (by simp; omega)
        simpa [node] using this
      have e7 : xDelR (node (es1 ++ (k, t0) :: rest) []).texts_ ((es1.length : Nat) : Int) ((es1.length + 1 : Nat) : Int) = some ((es1 ++ rest).map Prod.snd) := by
        have := delp (es1.map Prod.snd) (rest.map Prod.snd) t0 (by simp; omega)
        simpa [node] using this
      have hk0 : ((node (es1 ++ (k, t0) :: rest) []).kids_.length : Int) = 0 := by simp [node]
      refine ⟨A.set i.toNat (node (es1 ++ rest) []), ?_, [i.toNat], ⟨by rw [del_at hlt hgt]; exact idx_set_eq h0.1 (by omega), by rw [del_at hlt hgt]; simp; omega, by rw [del_at hlt hgt]; simp; omega, rfl⟩, by simp, fun q hq => List.getElem?_set_ne fun h => hq (by simp [h]), by simp, fun q hq => hq, ok.set fun q hq => by simp [node] at hq⟩
      rw [m16_tree_node_dropR, m16_tree_node_dropB, hf, bind2_some, if_pos rfl, m16_tree_node_drop_K1, if_pos rfl, h1, bind1_some, if_pos hk0, m16_tree_node_drop_K3, if_pos rfl, h1, bind1_some, isucc _ (by omega), bind1_some, bind1_some, e6, bind1_some, e7, bind1_some, upd_at h0.1 h0.2.1, bind1_some]
      rfl
  | succ h ih =>
    intro lo i kv F A hr ha hk hn ok hbig n hn0
    obtain ⟨n, rfl⟩ := dec n (by omega)
    obtain ⟨es, chs, hu, g1, g2, g3, g4, rfl, rfl⟩ := hr
    have h0 := idx_some hu
    have hae : AscK es := List.Pairwise.sublist ((es_sub es chs).map Prod.fst) ha
    obtain ⟨es1, es2, rfl, hlt, hcase⟩ := find_split k hu hae (by omega)
    obtain ⟨ch1, c, ch2, rfl, hl1, hl2⟩ := kids_split g3
    have hkids : ¬ ((node (es1 ++ es2) (ch1 ++ c :: ch2)).kids_.length : Int) = 0 := by simp [node]; omega
    have hlen : (es1 ++ es2).length = es1.length + es2.length := by simp
    rw [mix_at es1 ch1 hl1 hl2] at ha hk ⊢
    obtain ⟨a1, a2, a3⟩ := asc_app.1 ha
    obtain ⟨b1, b2, b3⟩ := asc_app.1 a2
    have hL := lft_lt _ _ a1 hlt
    have rc := g4 c (by simp)
    have hr : ∀ x ∈ ch1 ++ ch2, Rep A h 2 4 x.i x.kv x.F := fun x hx => g4 x (by
      rcases List.mem_append.1 hx with h | h
      · exact List.mem_append_left _ h
      · exact List.mem_append_right _ (List.mem_cons_of_mem _ h))
    have hcn : c.F.Nodup := List.Nodup.sublist (by rw [List.flatMap_append, List.flatMap_cons]; exact (List.sublist_append_left _ _).trans (List.sublist_append_right _ _)) (List.nodup_cons.1 hn).2
    rcases hcase with ⟨hm, hgt, hf⟩ | ⟨t0, rest, rfl, hgt, hf⟩
    · have hR := rgt_gt b2 hgt
      have hkc : k ∈ c.kv.map Prod.fst := by
        rw [List.map_append, List.map_append, List.mem_append, List.mem_append] at hk
        rcases hk with hk | hk | hk
        · obtain ⟨x, hx, e⟩ := List.mem_map.1 hk
          have := hL x hx; omega
        · exact hk
        · obtain ⟨x, hx, e⟩ := List.mem_map.1 hk
          have := hR x hx; omega
      obtain ⟨A1, e1, F1, r1, l1, s1, d1, w1, o1⟩ := ih 1 c.i c.kv c.F A rc b1 hkc hcn ok (by omega) n (by omega)
      obtain ⟨k1, k2, k3, k4, _, _⟩ := kid_turned (c := c) (ch1 := ch1) (ch2 := ch2) hu hr hn s1 d1 w1 (delK c.kv k)
      obtain ⟨A2, e2, F2, r2, l2, s2, d2, w2, o2⟩ := mend_rep (lo := lo) (c := ⟨c.i, delK c.kv k, F1⟩) (H := []) k1 hl1 hl2 (by omega) g2 k2 r1 k3 (fun q hq => List.not_mem_nil) o1 (by omega)
      refine ⟨A2, ?_, F2, ?_, by omega, fun q hq => ?_, d2, fun q hq => k4 q (w2 q hq), o2⟩
      · rw [m16_tree_node_dropR, m16_tree_node_dropB, hf, bind2_some, if_neg (by simp), m16_tree_node_drop_K1, if_neg (by simp), hu, bind1_some, if_neg hkids, kid_a hl1, bind1_some, e1, bind1_some, e2, bind1_some]
      · rw [del_mid hL hR]
        rw [mix_at es1 ch1 hl1 hl2] at r2
        exact r2
      · rw [s2 q fun h => hq (k4 q h), s1 q fun h => hq (mem_flat (x := c) (by simp) h)]
    · have hc : ∀ x ∈ c.kv, x.1 < k := fun x hx => b3 x hx (k, t0) (by rw [Rgt]; exact List.mem_cons_self)
      have hic : i.toNat ∉ c.F := fun h => (List.nodup_cons.1 hn).1 (List.mem_flatMap.2 ⟨c, by simp, h⟩)
      obtain ⟨A1, kvc, e', ek, e1, F1, r1, l1, s1, d1, w1, o1⟩ := last_rep (H := i.toNat :: []) h 1 c.i c.kv c.F A rc hcn (fun q hq hq2 => hic (by simp at hq2; rw [← hq2]; exact hq)) ok big (by omega)
      obtain ⟨k1, k2, k3, k4, k5, k6⟩ := kid_turned (c := c) (ch1 := ch1) (ch2 := ch2) hu hr hn s1 d1 w1 kvc
      have h01 := idx_some k1
      generalize hA2 : A1.set i.toNat (node (es1 ++ e' :: rest) (ch1 ++ ⟨c.i, kvc, F1⟩ :: ch2)) = A2
      have i2 : idx A2 i = some (node (es1 ++ e' :: rest) (ch1 ++ ⟨c.i, kvc, F1⟩ :: ch2)) := by rw [← hA2]; exact idx_set_eq h01.1 (by omega)
      have sm : ∀ q, q ≠ i.toNat → A2[q]? = A1[q]? := fun q hq => by rw [← hA2]; exact List.getElem?_set_ne (Ne.symm hq)
      have o2 : Ok A2 := by rw [← hA2]; exact o1.set fun q hq => o1.at k1 q hq
      have l2 : A2.length = A1.length := by rw [← hA2]; simp
      have r1' : Rep A2 h 1 4 c.i kvc F1 := r1.frame fun q hq => sm q fun e => hic (e ▸ w1 q hq)
      have hl9 : (es1 ++ e' :: rest).length = (es1 ++ (k, t0) :: rest).length := by simp
      obtain ⟨A3, e3, F3, r3, l3, s3, d3, w3, o3⟩ := mend_rep (lo := lo) (es1 := es1) (es2 := e' :: rest) (c := ⟨c.i, kvc, F1⟩) (H := []) i2 hl1 (by simpa using hl2) (by omega) (by omega) (fun x hx => (k2 x hx).frame fun q hq => sm q (k6 x hx q hq)) r1' k3 (fun q hq => List.not_mem_nil) o2 (by omega)
      have h4 : es1.length + rest.length + 1 ≤ 4 := by simp at g2; omega
      refine ⟨A3, ?_, F3, ?_, by omega, fun q hq => ?_, d3, fun q hq => k4 q (w3 q hq), o3⟩
      · have hA2' : A1.set i.toNat ⟨(es1 ++ e' :: rest).map Prod.fst, (es1 ++ e' :: rest).map Prod.snd, (node (es1 ++ (k, t0) :: rest) (ch1 ++ c :: ch2)).kids_⟩ = A2 := by rw [← hA2]; simp [node]
        rw [m16_tree_node_dropR, m16_tree_node_dropB, hf, bind2_some, if_pos rfl, m16_tree_node_drop_K1, if_pos rfl, hu, bind1_some, if_neg hkids, m16_tree_node_drop_K3, if_neg (by simp), hu, bind1_some, kid_a hl1, bind1_some, m26_tree_node_last, e1, bind3_some, key_at, bind1_some, key_set, bind1_some, text_at, bind1_some, text_set, bind1_some, upd_at h01.1 h01.2.1, bind1_some, hA2', m16_tree_node_drop_K2, e3, bind1_some]
      · have hY : ∀ x ∈ mix rest ch2, k < x.1 := by
          rw [Rgt] at b2
          exact (asc_cons.1 b2).1
        rw [Rgt, ← List.append_assoc, del_at (fun x hx => (List.mem_append.1 hx).elim (hL x) (hc x)) hY, ek]
        rw [mix_at es1 ch1 hl1 (by simpa using hl2), Rgt] at r3
        simpa [List.append_assoc] using r3
      · rw [s3 q fun h => hq (k4 q h), sm q fun e => hq (by rw [e]; exact List.mem_cons_self), s1 q fun h => hq (mem_flat (x := c) (by simp) h)]
end
section
variable {A A' : List Tnode} {B B' : List TTree} {h lo hi : Nat} {i : Int} {kv : List KV} {F : List Nat} {es : List KV} {chs : List Ch} {e : KV} {k : Int} {t : List UInt8} {c : Ch} {cs : List Ch}
theorem mix_len (hl : (c :: cs).length = es.length + 1) : c.kv.length + es.length ≤ (mix es (c :: cs)).length := by
  cases es with
  | nil => simp [mix]
  | cons e es =>
    have := (es_sub es cs).length_le
    rw [mix, List.length_append, List.length_cons, List.length_cons]
    omega
theorem rep_long : ∀ (h : Nat) (i : Int) (kv : List KV) (F : List Nat), Rep A h 2 4 i kv F → h + 2 ≤ kv.length := by
  intro h
  induction h with
  | zero => intro i kv F hr; have := hr.2.1; omega
  | succ h ih =>
    intro i kv F hr
    obtain ⟨es, chs, _, g1, g2, g3, g4, rfl, _⟩ := hr
    cases chs with
    | nil => simp at g3
    | cons c cs =>
      have h1 := ih _ _ _ (g4 c List.mem_cons_self)
      have h2 := mix_len g3
      omega
/-- The tree at place 0 holds these, in order. -/
def TI (A : List Tnode) (B : List TTree) (kv : List KV) : Prop := ∃ h lo root F, B = [⟨root, (kv.length : Int)⟩] ∧ Rep A h lo 4 root kv F ∧ (h = 0 ∨ lo = 1) ∧ AscK kv ∧ F.Nodup ∧ Ok A ∧ kv.length ≤ 2000
theorem TI.small {root : Int} (hr : Rep A h lo hi root kv F) (hlo : h = 0 ∨ lo = 1) : h ≤ kv.length := by
  cases h with
  | zero => omega
  | succ h =>
    obtain ⟨es, chs, _, g1, g2, g3, g4, rfl, _⟩ := hr
    cases chs with
    | nil => simp at g3
    | cons c cs =>
      have h1 := rep_long h _ _ _ (g4 c List.mem_cons_self)
      have h2 := mix_len g3
      omega
theorem new_ti : ∃ A B, m4_tree_New [] [] = some (A, B, 0) ∧ TI A B [] := by
  refine ⟨[⟨[], [], []⟩], [⟨0, 0⟩], ?_, 0, 0, 0, [0], rfl, ⟨rfl, by simp, by simp, rfl⟩, .inl rfl, List.Pairwise.nil, by simp, fun x hx => by simp at hx; subst hx; simp, by simp⟩
  rw [m4_tree_New, ck_pos (by constructor <;> simp [Tnode.ok46]), bind1_some, newA, bind2_some, newA, bind2_some]
  rfl
theorem get_ti (h : TI A B kv) : m6_tree_Tree_Get 0 k A B = some (match getK kv k with | some t => (t, 0) | none => ([], 6)) := by
  obtain ⟨h, lo, root, F, rfl, hr, hlo, ha, hn, ok, hl⟩ := h
  have := TI.small hr hlo
  rw [m6_tree_Tree_Get, show idx [(⟨root, (kv.length : Int)⟩ : TTree)] 0 = some ⟨root, (kv.length : Int)⟩ from rfl, bind1_some]
  exact get_rep h lo 4 root kv F (by omega) hr ha big (by rw [big_eq]; omega)
theorem len_ti (h : TI A B kv) : m12_tree_Tree_Len 0 B = some (kv.length : Int) := by
  obtain ⟨h, lo, root, F, rfl, _⟩ := h
  rfl
theorem put_len (ha : AscK kv) : (putK kv k t).length = if k ∈ kv.map Prod.fst then kv.length else kv.length + 1 := by
  induction kv with
  | nil => simp [putK]
  | cons x kv ih =>
    obtain ⟨h1, h2⟩ := asc_cons.1 ha
    have ih := ih h2
    unfold putK at ih ⊢
    rw [List.length_append, List.length_cons] at ih ⊢
    rcases Int.lt_trichotomy x.1 k with c | c | c
    · rw [List.filter_cons_of_pos (by simpa using c), List.filter_cons_of_neg (by simp; omega), List.length_cons]
      have : k ∈ (x :: kv).map Prod.fst ↔ k ∈ kv.map Prod.fst := by
        rw [List.map_cons, List.mem_cons]
        exact ⟨fun h => h.resolve_left (by omega), .inr⟩
      simp only [this]
      split at ih <;> rename_i h9 <;> simp only [h9, if_true, if_false] <;> rw [List.length_cons] <;> omega
    · have hk : ∀ y ∈ kv, k < y.1 := fun y hy => by have := h1 y hy; omega
      rw [if_pos (by simp [c]), List.filter_cons_of_neg (by simp; omega), List.filter_cons_of_neg (by simp; omega), filter_no fun y hy => by have := hk y hy; simp; omega, filter_all fun y hy => by simpa using hk y hy]
      simp
    · have hk : ∀ y ∈ kv, k < y.1 := fun y hy => by have := h1 y hy; omega
      have hm : k ∉ (x :: kv).map Prod.fst := fun h => by
        obtain ⟨y, hy, e⟩ := List.mem_map.1 h
        rcases List.mem_cons.1 hy with rfl | hy
        · omega
        · have := hk y hy; omega
      rw [if_neg hm, List.filter_cons_of_neg (by simp; omega), List.filter_cons_of_pos (by simpa using c), filter_no fun y hy => by have := hk y hy; simp; omega, filter_all fun y hy => by simpa using hk y hy]
      simp
theorem put_asc (ha : AscK kv) : AscK (putK kv k t) := by
  unfold putK
  refine asc_app.2 ⟨?_, asc_cons.2 ⟨fun y hy => ?_, ?_⟩, fun x hx y hy => ?_⟩
  · exact List.Pairwise.sublist (List.filter_sublist.map Prod.fst) ha
  · have := (List.mem_filter.1 hy).2; simpa using this
  · exact List.Pairwise.sublist (List.filter_sublist.map Prod.fst) ha
  · have h1 := (List.mem_filter.1 hx).2
    have h1 : x.1 < k := by simpa using h1
    rcases List.mem_cons.1 hy with rfl | hy
    · exact h1
    · have h2 := (List.mem_filter.1 hy).2
      have h2 : k < y.1 := by simpa using h2
      omega
theorem del_asc (ha : AscK kv) : AscK (delK kv k) := List.Pairwise.sublist (List.filter_sublist.map Prod.fst) ha
end
section
variable {A A' : List Tnode} {B B' : List TTree} {h lo hi : Nat} {i root : Int} {kv : List KV} {F : List Nat} {es : List KV} {chs : List Ch} {e : KV} {k : Int} {t : List UInt8} {c : Ch} {cs : List Ch}
theorem get_cases (ha : AscK kv) : (∃ t0, getK kv k = some t0 ∧ k ∈ kv.map Prod.fst) ∨ (getK kv k = none ∧ k ∉ kv.map Prod.fst) := by
  have h := get_mem (k := k) ha
  cases c : getK kv k with
  | none => exact .inr ⟨rfl, fun hm => by have := h.2 hm; rw [c] at this; cases this⟩
  | some t0 => exact .inl ⟨t0, rfl, h.1 (by rw [c]; rfl)⟩
theorem root_idx (n : Int) : idx [(⟨root, n⟩ : TTree)] 0 = some ⟨root, n⟩ := rfl
theorem root_upd (n : Int) (x : TTree) : upd [(⟨root, n⟩ : TTree)] 0 x = some [x] := rfl
theorem root_ok {n : Int} {N : Nat} (h : root < N) : ∀ x ∈ [(⟨root, n⟩ : TTree)], TTree.ok46 N x := fun x hx => by rw [List.mem_singleton.1 hx]; exact h
/-- The root, if it has too many keys. -/
theorem grow_ti (hr : Rep A h lo 5 root kv F) (hlo : h = 0 ∨ lo = 1) (ha : AscK kv) (hn : F.Nodup) (ok : Ok A) (hl : kv.length ≤ 2000) : ∃ A' B', m9_tree_Tree_Put_K2 0 A [⟨root, (kv.length : Int)⟩] = some (A', B', 0) ∧ TI A' B' kv := by
  obtain ⟨es, chs, hu, g1, g2, g3, g4, g5⟩ := rep_iff.1 hr
  have h0 := idx_some hu
  have hkl : ((node es chs).keys_.length : Int) = ((es.length : Nat) : Int) := by simp [node]
  rw [m9_tree_Tree_Put_K2, root_idx, bind1_some, hu, bind1_some, hkl]
  by_cases c : 4 < es.length
  · have hR : ∀ x ∈ A ++ [(⟨[], [], [root]⟩ : Tnode)], Tnode.ok46 A.length x := fun x hx q hq => by
      rcases List.mem_append.1 hx with h | h
      · exact ok x h q hq
      · rw [List.mem_singleton.1 h] at hq
        have : q = root := by simpa using hq
        omega
    have ok1 : Ok (A ++ [(⟨[], [], [root]⟩ : Tnode)]) := ok.app fun q hq => by
      have : q = root := by simpa using hq
      omega
    have hnN : A.length ∉ F := fun h => absurd (rep_lt hr _ h) (by omega)
    have hr1 : Rep (A ++ [(⟨[], [], [root]⟩ : Tnode)]) h 2 5 root kv F := (rep_iff.2 ⟨es, chs, hu, by omega, g2, g3, g4, g5⟩ : Rep A h 2 5 root kv F).frame fun q hq => List.getElem?_append_left (rep_lt hr q hq)
    have hu1 : idx (A ++ [(⟨[], [], [root]⟩ : Tnode)]) (A.length : Int) = some (node ([] ++ []) ([] ++ (⟨root, kv, F⟩ : Ch) :: [])) := by
      rw [idx_nat]; simp [node]
    obtain ⟨A2, F2, e2, ⟨m, hm, r2⟩, f2, d2, s2, o2⟩ := lift_rep (lo := 0) (c := ⟨root, kv, F⟩) hu1 rfl rfl (by simp) (by simp) (fun x hx => by simp at hx) hr1 (by simpa using ⟨hnN, hn⟩) ok1
    have hm1 : m = 1 := by
      rcases hm with ⟨_, h9⟩ | h9
      · obtain ⟨es', chs', hu', _, q2, _⟩ := rep_iff.1 h9
        have hu2 : idx (A ++ [(⟨[], [], [root]⟩ : Tnode)]) root = some (node es chs) := by rw [idx_appl h0.2.1]; exact hu
        rw [hu2] at hu'
        have := congrArg (fun x : Tnode => x.keys_.length) (Option.some.inj hu')
        simp [node] at this
        omega
      · simpa using h9
    subst hm1
    refine ⟨A2, [⟨(A.length : Int), (kv.length : Int)⟩], ?_, h + 1, 1, (A.length : Int), F2, rfl, ?_, .inr rfl, ha, d2, o2, hl⟩
    · rw [if_pos (by omega), bind1_some, ck_pos ⟨hR, root_ok h0.2.1, h0.2.1⟩, bind1_some, newA, bind2_some, root_upd, bind1_some, ck_pos (root_ok (by simp; omega)), bind1_some]
      have e2' : m18_tree_node_lift (A.length : Int) 0 (A ++ [(⟨[], [], [root]⟩ : Tnode)]) = some A2 := e2
      rw [e2', bind1_some]
    · have : mix ([] ++ []) ([] ++ (⟨root, kv, F⟩ : Ch) :: []) = kv := by simp [mix]
      rw [this] at r2
      exact r2.wk (Nat.le_refl _) (by omega)
  · rw [if_neg (by omega)]
    exact ⟨A, _, rfl, h, lo, root, F, rfl, rep_iff.2 ⟨es, chs, hu, g1, by omega, g3, g4, g5⟩, hlo, ha, hn, ok, hl⟩
theorem put_ti (hti : TI A B kv) (hk : k ∈ kv.map Prod.fst ∨ kv.length < 2000) : ∃ A' B', m9_tree_Tree_Put 0 k t A B = some (A', B', 0) ∧ TI A' B' (putK kv k t) := by
  have hg := get_ti (k := k) hti
  obtain ⟨h, lo, root, F, rfl, hr, hlo, ha, hn, ok, hl⟩ := hti
  have hsm := TI.small hr hlo
  have hrt := hr.here
  obtain ⟨A1, F1, e1, r1, f1, d1, s1, o1⟩ := put_rep k t h lo root kv F A hr ha hn ok big (by rw [big_eq]; omega)
  have hpl := put_len (k := k) (t := t) ha
  have key : ∃ A' B', m9_tree_Tree_Put_K1 [⟨root, (kv.length : Int)⟩] 0 A k t = some (A', B', 0) ∧ TI A' B' (putK kv k t) := by
    rw [m9_tree_Tree_Put_K1, root_idx, bind1_some, ck_pos (root_ok hrt.2.1), bind1_some, m17_tree_node_put, e1, bind2_some]
    by_cases c : k ∈ kv.map Prod.fst
    · rw [if_pos c] at hpl
      rw [if_neg (by simpa using c), ← hpl]
      exact grow_ti r1 hlo (put_asc ha) d1 o1 (by omega)
    · rw [if_neg c] at hpl
      have hl2 : kv.length < 2000 := hk.resolve_left c
      rw [if_pos (by simpa using c), bind1_some, isucc _ (by omega), bind1_some, root_upd, bind1_some, ← hpl]
      exact grow_ti r1 hlo (put_asc ha) d1 o1 (by omega)
  rw [m9_tree_Tree_Put, hg, bind2_some]
  rcases get_cases (k := k) ha with ⟨t0, h1, h2⟩ | ⟨h1, h2⟩
  · rw [h1]
    simp only [ne_eq, not_true_eq_false, if_false]
    exact key
  · have hl2 : kv.length < 2000 := hk.resolve_left h2
    rw [h1]
    simp only []
    rw [if_pos (by decide), root_idx, bind1_some, if_neg (by simp; omega)]
    exact key
theorem put_full (hti : TI A B kv) (hk : k ∉ kv.map Prod.fst) (hl : kv.length = 2000) : m9_tree_Tree_Put 0 k t A B = some (A, B, 8) := by
  have hg := get_ti (k := k) hti
  obtain ⟨h, lo, root, F, rfl, hr, hlo, ha, hn, ok, _⟩ := hti
  rw [m9_tree_Tree_Put, hg, bind2_some, get_none hk]
  simp only []
  rw [if_pos (by decide), root_idx, bind1_some, if_pos (by simp; omega)]
theorem del_len (ha : AscK kv) (hk : k ∈ kv.map Prod.fst) : (delK kv k).length + 1 = kv.length := by
  induction kv with
  | nil => simp at hk
  | cons x kv ih =>
    obtain ⟨h1, h2⟩ := asc_cons.1 ha
    unfold delK at ih ⊢
    by_cases c : x.1 = k
    · rw [List.filter_cons_of_neg (by simpa using c), filter_all fun y hy => by have := h1 y hy; simp; omega]
      rfl
    · rw [List.filter_cons_of_pos (by simpa using c), List.length_cons, List.length_cons]
      have := ih h2 (by
        rw [List.map_cons, List.mem_cons] at hk
        exact hk.resolve_left fun h => c h.symm)
      omega
theorem drop_none (hti : TI A B kv) (hk : k ∉ kv.map Prod.fst) : m7_tree_Tree_Drop 0 k A B = some (A, B, 6) := by
  have hg := get_ti (k := k) hti
  rw [m7_tree_Tree_Drop, hg, bind2_some, get_none hk]
  simp only []
  rw [if_pos (by decide)]
end
section
variable {A A' : List Tnode} {B B' : List TTree} {h lo hi : Nat} {i root : Int} {kv : List KV} {F : List Nat} {es : List KV} {chs : List Ch} {e : KV} {k : Int} {t : List UInt8} {c : Ch} {cs : List Ch}
theorem drop_ti (hti : TI A B kv) (hk : k ∈ kv.map Prod.fst) : ∃ A' B', m7_tree_Tree_Drop 0 k A B = some (A', B', 0) ∧ TI A' B' (delK kv k) := by
  have hg := get_ti (k := k) hti
  obtain ⟨h, lo, root, F, rfl, hr, hlo, ha, hn, ok, hl⟩ := hti
  have hsm := TI.small hr hlo
  have hdl := del_len ha hk
  have hr1 : Rep A h (0 + 1) 4 root kv F := by
    rcases hlo with rfl | rfl
    · obtain ⟨h1, h2, h3, h4⟩ := hr
      exact ⟨h1, by omega, h3, h4⟩
    · exact hr
  obtain ⟨A1, e1, F1, r1, l1, s1, d1, w1, o1⟩ := drop_rep k h 0 root kv F A hr1 ha hk hn ok (by rw [big_eq]; omega) big (by rw [big_eq]; omega)
  obtain ⟨t0, hg0⟩ : ∃ t0, getK kv k = some t0 := by
    rcases get_cases (k := k) ha with ⟨t0, hg0, _⟩ | ⟨_, hno⟩
    · exact ⟨t0, hg0⟩
    · exact absurd hk hno
  obtain ⟨es, chs, hu, g1, g2, g3, g4, g5⟩ := rep_iff.1 r1
  have hkl : ((node es chs).keys_.length : Int) = ((es.length : Nat) : Int) := by simp [node]
  have hkd : ((node es chs).kids_.length : Int) = ((chs.length : Nat) : Int) := by simp [node]
  have hsub : i64 ((kv.length : Int) - 1) = some ((delK kv k).length : Int) := by rw [show (kv.length : Int) - 1 = ((delK kv k).length : Int) by omega, i64_ok (by omega) (by omega)]
  rw [m7_tree_Tree_Drop, hg, bind2_some, hg0]
  simp only [ne_eq, not_true_eq_false, if_false]
  rw [m7_tree_Tree_Drop_K1, root_idx, bind1_some, m16_tree_node_drop, e1, bind1_some, bind1_some, hsub, bind1_some, root_upd, bind1_some, hu, bind1_some, hkl]
  by_cases c0 : es.length = 0
  · rw [if_pos (by omega), root_idx, bind1_some, hu, bind1_some, hkd]
    cases h with
    | zero =>
      have : chs = [] := g3
      subst this
      rw [if_neg (by simp)]
      exact ⟨A1, _, rfl, 0, 0, root, F1, rfl, r1, .inl rfl, del_asc ha, d1, o1, by omega⟩
    | succ h =>
      obtain ⟨q1, q2⟩ := g3
      obtain rfl : es = [] := List.length_eq_zero_iff.1 c0
      obtain ⟨c, rfl⟩ : ∃ c, chs = [c] := List.length_eq_one_iff.1 (by simpa using q1)
      have hck : c.kv = delK kv k := by rw [g4]; simp [mix]
      rw [if_pos (by simp), bind1_some, hu, bind1_some, show idx (node [] [c]).kids_ 0 = some c.i from rfl, bind1_some, bind1_some, root_upd, bind1_some]
      refine ⟨A1, _, rfl, h, 1, c.i, c.F, rfl, by rw [← hck]; exact (q2 c (by simp)).wk (by omega) (Nat.le_refl _), .inr rfl, del_asc ha, ?_, o1, by omega⟩
      rw [g5] at d1
      simpa using (List.nodup_cons.1 d1).2
  · rw [if_neg (by omega)]
    exact ⟨A1, _, rfl, h, 1, root, F1, rfl, rep_iff.2 ⟨es, chs, hu, by omega, g2, g3, g4, g5⟩, .inr rfl, del_asc ha, d1, o1, by omega⟩
end
section
variable {A A' : List Tnode} {h lo hi : Nat} {i root : Int} {kv : List KV} {F : List Nat} {es es1 es2 esl esr : List KV} {chs chl chr ch1 ch2 : List Ch} {e : KV} {k fr : Int} {c : Ch} {cs : List Ch}
def fromK (kv : List KV) (fr : Int) : List KV := kv.filter fun x => decide (fr ≤ x.1)
theorem mix_rgt : mix es2 (c :: ch2) = c.kv ++ Rgt es2 ch2 := by cases es2 <;> simp [mix, Rgt]
theorem go_rep {rec : Int → Int → List Tnode → Option (List KV)} : ∀ (esr esl : List KV) (chl chr : List Ch), (chr = [] ∧ chl = [] ∨ chr.length = esr.length + 1 ∧ chl.length = esl.length) → (esl ++ esr).length ≤ 1000 → (∀ x ∈ esr, fr ≤ x.1) → (∀ x ∈ chr, rec x.i fr A = some (fromK x.kv fr)) → ∀ m, esr.length + 1 < m →
    eachGo rec fr A (node (esl ++ esr) (chl ++ chr)) m ((esl.length : Nat) : Int) = some (fromK (mix esr chr) fr) := by
  intro esr
  induction esr with
  | nil =>
    intro esl chl chr hs hl hg hrec m hm
    obtain ⟨m, rfl⟩ := dec m (by omega)
    obtain ⟨m, rfl⟩ := dec m (by simp at hm; omega)
    have hkl : ((node (esl ++ []) (chl ++ chr)).keys_.length : Int) = ((esl.length : Nat) : Int) := by simp [node]
    have hend : eachGo rec fr A (node (esl ++ []) (chl ++ chr)) (m + 1) ((esl.length + 1 : Nat) : Int) = some [] := by rw [eachGo, hkl, if_neg (by omega)]
    simp only [List.length_append, List.length_nil] at hl
    rw [eachGo, hkl, if_pos (Int.le_refl _)]
    rcases hs with ⟨rfl, rfl⟩ | ⟨s1, s2⟩
    · rw [if_neg (by simp [node]), bind1_some, if_neg (Int.lt_irrefl _), bind1_some, isucc _ (by omega), bind1_some, hend, bind1_some]
      simp [mix, fromK]
    · obtain ⟨c, rfl⟩ : ∃ c, chr = [c] := List.length_eq_one_iff.1 (by simpa using s1)
      have hk0 : (0 : Int) < ((node (esl ++ []) (chl ++ [c])).kids_.length : Int) := by show (0 : Int) < (((chl ++ [c]).map Ch.i).length : Int); rw [List.length_map, List.length_append, List.length_singleton]; omega
      rw [if_pos hk0, kid_a s2, bind1_some, hrec c (by simp), bind1_some, if_neg (Int.lt_irrefl _), bind1_some, isucc _ (by omega), bind1_some, hend, bind1_some]
      simp [mix]
  | cons e esr ih =>
    intro esl chl chr hs hl hg hrec m hm
    obtain ⟨m, rfl⟩ := dec m (by omega)
    have hkl : ((node (esl ++ e :: esr) (chl ++ chr)).keys_.length : Int) = ((esl.length + esr.length + 1 : Nat) : Int) := by simp [node]; omega
    have hl9 : esl.length + esr.length + 1 ≤ 1000 := by simp at hl; omega
    have he := hg e List.mem_cons_self
    have hm' : esr.length + 1 < m := by simp at hm; omega
    have hle : (esl ++ [e]).length = esl.length + 1 := by simp
    rw [eachGo, hkl, if_pos (by omega)]
    rcases hs with ⟨rfl, rfl⟩ | ⟨s1, s2⟩
    · have h3 := ih (esl ++ [e]) [] [] (.inl ⟨rfl, rfl⟩) (by simp; omega) (fun x hx => hg x (List.mem_cons_of_mem _ hx)) (fun x hx => by cases hx) m hm'
      rw [hle, List.append_assoc] at h3
      rw [if_neg (by simp [node]), bind1_some, if_pos (by omega), key_at, bind1_some, text_at, bind1_some, bind1_some, isucc _ (by omega), bind1_some]
      simp only [List.append_nil, List.cons_append, List.nil_append] at h3 ⊢
      rw [h3, bind1_some]
      simp [mix_nil, fromK, he]
    · cases chr with
      | nil => simp at s1
      | cons c chr =>
        have h3 := ih (esl ++ [e]) (chl ++ [c]) chr (.inr ⟨by simpa using s1, by simp [s2]⟩) (by simp; omega) (fun x hx => hg x (List.mem_cons_of_mem _ hx)) (fun x hx => hrec x (List.mem_cons_of_mem _ hx)) m hm'
        rw [hle, List.append_assoc, List.append_assoc] at h3
        simp only [List.cons_append, List.nil_append] at h3
        have hk0 : (0 : Int) < ((node (esl ++ e :: esr) (chl ++ c :: chr)).kids_.length : Int) := by show (0 : Int) < (((chl ++ c :: chr).map Ch.i).length : Int); simp; omega
        rw [if_pos hk0, kid_a s2, bind1_some, hrec c List.mem_cons_self, bind1_some, if_pos (by omega), key_at, bind1_some, text_at, bind1_some, bind1_some, isucc _ (by omega), bind1_some, h3, bind1_some]
        simp [mix, fromK, he]
theorem each_rep : ∀ (h lo hi : Nat) (i : Int) (kv : List KV) (F : List Nat), hi ≤ 900 → Rep A h lo hi i kv F → AscK kv → ∀ n, h < n → mEach n i fr A = some (fromK kv fr) := by
  intro h
  induction h with
  | zero =>
    intro lo hi i kv F hhi hr ha n hn
    obtain ⟨n, rfl⟩ := dec n hn
    obtain ⟨h1, h2, h3, _⟩ := hr
    have hf := find_node (k := fr) h1 ha (by omega)
    have hp := pos_len (es := kv) (k := fr)
    have hlt := es_lt (k := fr) ha
    have hge := es_ge (k := fr) ha
    generalize pos (kv.map Prod.fst) fr = p at *
    have hpl : (kv.take p).length = p := by rw [List.length_take]; omega
    have h9 := go_rep (A := A) (rec := mEach n) (fr := fr) (kv.drop p) (kv.take p) [] [] (.inl ⟨rfl, rfl⟩) (by rw [List.take_append_drop]; omega) hge (fun x hx => by cases hx) big (by rw [big_eq, List.length_drop]; omega)
    rw [List.take_append_drop, hpl, List.append_nil, mix_nil] at h9
    rw [mEach, h1, bind1_some, hf, bind2_some, h9]
    congr 1
    conv => rhs; rw [← List.take_append_drop p kv]
    unfold fromK
    rw [List.filter_append, filter_no (l := kv.take p) fun x hx => by have := hlt x hx; simp; omega, List.nil_append]
  | succ h ih =>
    intro lo hi i kv F hhi hr ha n hn
    obtain ⟨n, rfl⟩ := dec n (by omega)
    obtain ⟨es, chs, h1, h2, h3, h4, h5, rfl, h7⟩ := hr
    have hae : AscK es := List.Pairwise.sublist ((es_sub es chs).map Prod.fst) ha
    have hf := find_node (k := fr) h1 hae (by omega)
    have hp := pos_len (es := es) (k := fr)
    have hlt := es_lt (k := fr) hae
    have hge := es_ge (k := fr) hae
    have hkv : ∀ x ∈ chs, AscK x.kv := fun x hx => by
      obtain ⟨q, hq, rfl⟩ := List.mem_iff_getElem.1 hx
      have := mix_place (es := es) (chs := chs) q (by omega) h4
      rw [this] at ha
      exact (asc_app.1 (asc_app.1 ha).2.1).1
    have hm := mix_place (es := es) (chs := chs) (pos (es.map Prod.fst) fr) hp h4
    generalize pos (es.map Prod.fst) fr = p at *
    have hpl : (es.take p).length = p := by rw [List.length_take]; omega
    have h9 := go_rep (A := A) (rec := mEach n) (fr := fr) (es.drop p) (es.take p) (chs.take p) (chs.drop p) (.inr ⟨by rw [List.length_drop, List.length_drop]; omega, by rw [List.length_take, List.length_take]; omega⟩) (by rw [List.take_append_drop]; omega) hge (fun x hx => ih 2 4 x.i x.kv x.F (by omega) (h5 x (List.mem_of_mem_drop hx)) (hkv x (List.mem_of_mem_drop hx)) n (by omega)) big (by rw [big_eq, List.length_drop]; omega)
    rw [List.take_append_drop, List.take_append_drop, hpl] at h9
    rw [mEach, h1, bind1_some, hf, bind2_some, h9]
    rw [hm] at ha
    rw [hm, List.drop_eq_getElem_cons (show p < chs.length by omega), mix_rgt]
    congr 1
    have hz : (Lft (es.take p) (chs.take p)).filter (fun x => decide (fr ≤ x.1)) = [] := filter_no fun x hx => decide_eq_false (by have := lft_lt _ _ (asc_app.1 ha).1 hlt x hx; omega)
    unfold fromK
    conv => rhs; rw [List.filter_append, hz, List.nil_append]
end
section
variable {A A' : List Tnode} {B B' : List TTree} {kv : List KV} {tm : List (Int × List UInt8)} {k fr : Int} {t : List UInt8}
/-- The map tells each key's text. -/
def Mt (tm : List (Int × List UInt8)) (kv : List KV) : Prop := ∀ x ∈ kv, mget tm x.1 [] = x.2
theorem TI.asc (h : TI A B kv) : AscK kv ∧ kv.length ≤ 2000 := by
  obtain ⟨h, lo, root, F, rfl, hr, hlo, ha, hn, ok, hl⟩ := h
  exact ⟨ha, hl⟩
theorem mt_get (hm : Mt tm kv) (ha : AscK kv) (hk : k ∈ kv.map Prod.fst) : getK kv k = some (mget tm k []) := by
  rcases get_cases (k := k) ha with ⟨t0, h1, _⟩ | ⟨_, h2⟩
  · unfold getK at h1
    rw [Option.map_eq_some_iff] at h1
    obtain ⟨x, hx, rfl⟩ := h1
    have hxk : x.1 = k := by simpa using List.find?_some hx
    have := hm x (List.mem_of_find?_eq_some hx)
    rw [← hxk, this]
    unfold getK
    rw [hxk, hx]; rfl
  · exact absurd hk h2
theorem mt_put (hm : Mt tm kv) : Mt (mset tm k t) (putK kv k t) := by
  intro x hx
  rw [mget_mset]
  unfold putK at hx
  rcases List.mem_append.1 hx with hx | hx
  · have h2 := (List.mem_filter.1 hx).2
    rw [if_neg (by simp at h2; omega)]
    exact hm x (List.mem_filter.1 hx).1
  · rcases List.mem_cons.1 hx with rfl | hx
    · rw [if_pos rfl]
    · have h2 := (List.mem_filter.1 hx).2
      rw [if_neg (by simp at h2; omega)]
      exact hm x (List.mem_filter.1 hx).1
theorem mt_del (hm : Mt tm kv) : Mt tm (delK kv k) := fun x hx => hm x (List.mem_filter.1 hx).1
theorem keys_ins (ha : AscK kv) (hk : k ∉ kv.map Prod.fst) (hl : kv.length ≤ 2000) : xInsR (kv.map Prod.fst) ((pos (kv.map Prod.fst) k : Nat) : Int) k = some ((putK kv k t).map Prod.fst) := by
  have h1 := es_lt (k := k) ha
  have h2 := es_gt ha hk
  have hp := pos_len (es := kv) (k := k)
  generalize pos (kv.map Prod.fst) k = p at *
  have h3 : putK kv k t = kv.take p ++ (k, t) :: kv.drop p := by
    have := put_new (t := t) h1 h2
    rwa [List.take_append_drop] at this
  unfold xInsR
  rw [if_pos ⟨by omega, by simp; omega, by simp; omega⟩, h3]
  simp
theorem keys_del (ha : AscK kv) (hk : k ∈ kv.map Prod.fst) (hl : kv.length ≤ 2000) : xDelR (kv.map Prod.fst) ((pos (kv.map Prod.fst) k : Nat) : Int) ((pos (kv.map Prod.fst) k + 1 : Nat) : Int) = some ((delK kv k).map Prod.fst) := by
  have h1 := es_lt (k := k) ha
  obtain ⟨t0, rest, h2, h3⟩ := es_at ha hk
  have hp := pos_len (es := kv) (k := k)
  generalize pos (kv.map Prod.fst) k = p at *
  have hpl : (kv.take p).length = p := by rw [List.length_take]; omega
  have h4 : kv = kv.take p ++ (k, t0) :: rest := by rw [← h2, List.take_append_drop]
  have h5 : delK kv k = kv.take p ++ rest := by
    have := del_at (t' := t0) h1 h3
    rwa [← h4] at this
  have h6 := delp ((kv.take p).map Prod.fst) (rest.map Prod.fst) k
  rw [List.length_map, hpl] at h6
  have h7 : kv.length = p + rest.length + 1 := by
    have := congrArg List.length h4
    rw [List.length_append, List.length_cons, hpl] at this
    omega
  rw [h5]
  conv => lhs; rw [h4]
  unfold xDelR
  rw [if_pos ⟨by omega, by omega, by simp; omega, by simp; omega⟩, Int.toNat_natCast, Int.toNat_natCast, List.map_append, List.map_cons, List.take_left' (by simp; omega), show (kv.take p).map Prod.fst ++ k :: rest.map Prod.fst = ((kv.take p).map Prod.fst ++ [k]) ++ rest.map Prod.fst by simp, List.drop_left' (by simp; omega), List.map_append]
theorem keys_same (ha : AscK kv) (hk : k ∈ kv.map Prod.fst) : (putK kv k t).map Prod.fst = kv.map Prod.fst := by
  have h1 := es_lt (k := k) ha
  obtain ⟨t0, rest, h2, h3⟩ := es_at ha hk
  generalize pos (kv.map Prod.fst) k = p at *
  have h4 : kv = kv.take p ++ (k, t0) :: rest := by rw [← h2, List.take_append_drop]
  have h5 : putK kv k t = kv.take p ++ (k, t) :: rest := by
    have := put_at (t' := t0) (t := t) h1 h3
    rwa [← h4] at this
  rw [h5]
  conv => rhs; rw [h4]
  simp
end
section
variable {A A' : List Tnode} {B B' : List TTree} {kv : List KV} {tm : List (Int × List UInt8)} {k fr : Int} {t : List UInt8} {a0 : List TKeyDeed} {a1 : Int}
theorem deeds (hend : ∀ A B tm kv, TI A B kv → Mt tm kv → m3_quirlaw_TreePlays_K2 a1 0 A B tm (kv.map Prod.fst) = some true) (hl0 : a0.length ≤ 4611686018427387903) : ∀ (r i : Nat), i + r = a0.length → ∀ A B tm kv, TI A B kv → Mt tm kv → ∀ n, r < n → m3_quirlaw_TreePlays_L2 a0 0 a1 n ((i : Nat) : Int) A B tm (kv.map Prod.fst) = some true := by
  intro r
  induction r with
  | zero =>
    intro i hi A B tm kv hti hm n hn
    obtain ⟨n, rfl⟩ := dec n hn
    rw [m3_quirlaw_TreePlays_L2, m3_quirlaw_TreePlays_L2B, if_neg (by omega)]
    exact hend A B tm kv hti hm
  | succ r ih =>
    intro i hi A B tm kv hti hm n hn
    obtain ⟨n, rfl⟩ := dec n (by omega)
    obtain ⟨ha, hl⟩ := hti.asc
    have hil : i < a0.length := by omega
    have go : ∀ A B tm kv, TI A B kv → Mt tm kv → m3_quirlaw_TreePlays_K4 ((i : Nat) : Int) (m3_quirlaw_TreePlays_L2 a0 0 a1 n) A B tm (kv.map Prod.fst) = some true := fun A B tm kv h1 h2 => by
      rw [m3_quirlaw_TreePlays_K4, isucc _ (by omega), bind1_some]
      exact ih (i + 1) (by omega) A B tm kv h1 h2 n (by omega)
    rw [m3_quirlaw_TreePlays_L2, m3_quirlaw_TreePlays_L2B, if_pos (by omega), idx_ok hil, bind1_some]
    generalize a0[i] = d
    have hmod : modW d.Kind 3 = some (d.Kind.tmod 3) := if_pos (by decide)
    have hg := get_ti (k := d.Key) hti
    rw [bin_ints ha (by simp; omega), bind2_some]
    by_cases c : d.Key ∈ kv.map Prod.fst
    · rw [if_pos (by simpa using c), m3_quirlaw_TreePlays_K5, if_pos rfl, hg, bind2_some, mt_get hm ha c]
      simp only []
      rw [if_neg (by simp), if_neg (by simp), m3_quirlaw_TreePlays_K13, if_neg (by simp), m3_quirlaw_TreePlays_K11, hmod, bind1_some]
      by_cases c2 : d.Kind.tmod 3 = 0
      · obtain ⟨A', B', e1, h1⟩ := drop_ti hti c
        have := pos_len (es := kv) (k := d.Key)
        rw [if_pos c2, e1, bind3_some, if_neg (by simp), isucc _ (by omega), bind1_some, keys_del ha c hl, bind1_some]
        exact go A' B' tm _ h1 (mt_del hm)
      · obtain ⟨A', B', e1, h1⟩ := put_ti (t := d.Text) hti (.inl c)
        rw [if_neg c2, m3_quirlaw_TreePlays_K12, e1, bind3_some, if_neg (by simp), bind1_some, ← keys_same (t := d.Text) ha c]
        exact go A' B' _ _ h1 (mt_put hm)
    · rw [if_neg (by simpa using c), m3_quirlaw_TreePlays_K5, if_neg (by simp), hg, bind2_some, get_none c]
      simp only []
      rw [if_neg (by simp), if_neg (by simp), m3_quirlaw_TreePlays_K10, if_neg (by simp), m3_quirlaw_TreePlays_K6, hmod, bind1_some]
      by_cases c2 : d.Kind.tmod 3 = 0
      · rw [if_pos c2, drop_none hti c, bind3_some, if_neg (by simp), if_neg (by simp)]
        exact go A B tm kv hti hm
      · rw [if_neg c2, m3_quirlaw_TreePlays_K7]
        by_cases c3 : kv.length = 2000
        · rw [put_full hti c c3, bind3_some, if_pos (by simp; omega), if_neg (by simp)]
          exact go A B tm kv hti hm
        · obtain ⟨A', B', e1, h1⟩ := put_ti (t := d.Text) hti (.inr (by omega))
          rw [e1, bind3_some, if_neg (by simp; omega), m3_quirlaw_TreePlays_K8, if_neg (by simp), m3_quirlaw_TreePlays_K9, keys_ins (t := d.Text) ha c hl, bind1_some, bind1_some]
          exact go A' B' _ _ h1 (mt_put hm)
theorem from_drop (ha : AscK kv) : fromK kv fr = kv.drop (pos (kv.map Prod.fst) fr) := by
  have h1 := es_lt (k := fr) ha
  have h2 := es_ge (k := fr) ha
  generalize pos (kv.map Prod.fst) fr = p at *
  unfold fromK
  conv => lhs; rw [← List.take_append_drop p kv]
  rw [List.filter_append, filter_no fun x hx => decide_eq_false (by have := h1 x hx; omega), filter_all fun x hx => by simpa using h2 x hx, List.nil_append]
theorem handed (hti : TI A B kv) (hm : Mt tm kv) (hl : kv.length ≤ 2000) : ∀ (r p : Nat), p + r = kv.length → m3_quirlaw_TreePlays_R1 (kv.map Prod.fst) tm 0 B (kv.drop p) ((p : Nat) : Int) = some true := by
  intro r
  induction r with
  | zero =>
    intro p hp
    rw [List.drop_eq_nil_of_le (by omega), m3_quirlaw_TreePlays_R1, if_pos (by simp; omega), len_ti hti, bind1_some]
    simp
  | succ r ih =>
    intro p hp
    have h1 : p < kv.length := by omega
    rw [List.drop_eq_getElem_cons h1, m3_quirlaw_TreePlays_R1, m3_quirlaw_TreePlays_R1B, if_neg (by simp; omega), idx_ok (by simpa using h1), bind1_some, if_neg (by simp), if_neg (by simp [hm _ (List.getElem_mem h1)]), isucc _ (by omega), bind1_some]
    exact ih (p + 1) (by omega)
theorem the_end (hti : TI A B kv) (hm : Mt tm kv) : m3_quirlaw_TreePlays_K2 a1 0 A B tm (kv.map Prod.fst) = some true := by
  obtain ⟨ha, hl⟩ := hti.asc
  have hp := pos_len (es := kv) (k := a1)
  have hh := handed hti hm hl (kv.length - pos (kv.map Prod.fst) a1) (pos (kv.map Prod.fst) a1) (by omega)
  rw [m3_quirlaw_TreePlays_K2, bin_ints ha (by simp; omega), bind2_some, m3_quirlaw_TreePlays_K3]
  obtain ⟨h, lo, root, F, rfl, hr, hlo, _, hn, ok, _⟩ := hti
  have hs := TI.small hr hlo
  rw [root_idx, bind1_some, each_rep (fr := a1) h lo 4 root kv F (by omega) hr ha big (by rw [big_eq]; omega), bind1_some, from_drop ha]
  exact hh
theorem law (hl0 : a0.length ≤ 4611686018427387903) : m3_quirlaw_TreePlays a0 a1 = some true := by
  obtain ⟨A, B, e1, h1⟩ := new_ti
  rw [m3_quirlaw_TreePlays, e1, bind3_some, if_neg (by omega), m3_quirlaw_TreePlays_K1]
  exact deeds (fun A B tm kv h2 h3 => the_end h2 h3) hl0 a0.length 0 (by omega) A B [] [] h1 (fun x hx => by cases hx) big (by rw [big_eq]; omega)
end
end Go.Proofs.Ytdebhhjbgbkbjaa
