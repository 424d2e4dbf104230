/-
  Parts of a graph: one edge after the other, and what is left behind.
  Conditions: none.
-/
import Derived.Test.YtjhcdmcikodgkaaGrC
namespace Go.Proofs.Ytjhcdmcikodgkaa
open Go.S
set_option linter.unusedVariables false
set_option linter.unusedSimpArgs false

variable {n : Nat} {es : List TEdge} {G : List Int} {σ τ : St} {L M : Int → Int} {k x : Int} {j : Nat}

theorem Lv.kS (h : Lv n es G σ L k j τ M) : k ∈ τ.s := h.inv.gs k (List.mem_cons_self ..)
/-- Nothing to do: a node that is done. -/
theorem Lv.skip (h : Lv n es G σ L k j τ M) (hj : (suc es k).take (j + 1) = (suc es k).take j ++ [x]) (hx : τ.W x ≠ 0) (hs : x ∉ τ.s) : Lv n es G σ L k (j + 1) τ M := by
  refine ⟨h.inv, h.ext, h.seen, h.lo, h.hi, h.str, fun y hy => ?_⟩
  rw [hj, List.mem_append, List.mem_singleton] at hy
  rcases hy with hy | hy
  · exact h.old y hy
  · rw [hy]
    refine ⟨hx, fun q => absurd ?_ hs⟩
    obtain ⟨T, h1, _, _⟩ := h.str
    rw [h1]
    exact List.mem_append_left _ q
/-- A node of the stack. -/
theorem Lv.look (h : Lv n es G σ L k j τ M) (hσ : Inv n es G σ) (hj : (suc es k).take (j + 1) = (suc es k).take j ++ [x]) (hx : τ.W x ≠ 0) (hs : x ∈ τ.s) (he : Ed es k x) : Lv n es G σ L k (j + 1) τ (ins M k (min (M k) (τ.W x))) := by
  have hkz := h.kz hσ
  have hmin : min (M k) (τ.W x) ≤ M k := Int.min_le_left ..
  have hmin2 : min (M k) (τ.W x) ≤ τ.W x := Int.min_le_right ..
  refine ⟨h.inv, fun y hy => ⟨(h.ext y hy).1, ?_⟩, h.seen, ?_, ?_, ?_, fun y hy => ?_⟩
  · rw [ins_ne (fun e => hy (by rw [e]; exact hkz))]; exact (h.ext y hy).2
  · rw [ins_at]; exact Int.le_trans hmin h.lo
  · rw [ins_at]
    by_cases c : M k ≤ τ.W x
    · rw [Int.min_eq_left c]; exact h.hi
    · have h2 := h.lo
      rw [Int.min_eq_right (by omega)]
      exact ⟨x, .inr (h.before hs (by omega)), rfl, Rch.edge he⟩
  · obtain ⟨T, h1, h2, h3⟩ := h.str
    refine ⟨T, h1, h2, fun a ha y hy hys => ?_⟩
    rw [ins_at]
    exact Int.le_trans hmin (h3 a ha y hy hys)
  · rw [ins_at]
    rw [hj, List.mem_append, List.mem_singleton] at hy
    rcases hy with hy | hy
    · exact ⟨(h.old y hy).1, fun q => Int.le_trans hmin ((h.old y hy).2 q)⟩
    · rw [hy]
      exact ⟨hx, fun q => by rw [← (h.ext x (hσ.inr x q)).1]; exact hmin2⟩
/-- A node that is new: its visit. -/
theorem Lv.deep {τ' : St} {M' : Int → Int} (h : Lv n es G σ L k j τ M) (hσ : Inv n es G σ) (hj : (suc es k).take (j + 1) = (suc es k).take j ++ [x]) (hx : τ.W x = 0) (he : Ed es k x) (hp : Post n es (k :: G) τ M x τ' M') :
    Lv n es G σ L k (j + 1) τ' (ins M' k (min (M' k) (M' x))) := by
  have hkz := h.kz hσ
  have hmin : min (M' k) (M' x) ≤ M' k := Int.min_le_left ..
  have hmin2 : min (M' k) (M' x) ≤ M' x := Int.min_le_right ..
  have hkn : τ.W k ≠ 0 := h.inv.inr k h.kS
  have hk' := hp.ext k hkn
  have hst : ∀ {y}, σ.W y ≠ 0 → τ.W y ≠ 0 := fun q => by rw [(h.ext _ q).1]; exact q
  refine ⟨hp.inv, fun y hy => ?_, ?_, ?_, ?_, ?_, fun y hy => ?_⟩
  · have h1 := h.ext y hy
    have h2 := hp.ext y (hst hy)
    exact ⟨h2.1.trans h1.1, by rw [ins_ne (fun e => hy (by rw [e]; exact hkz))]; exact h2.2.trans h1.2⟩
  · rw [hk'.1]; exact h.seen
  · rw [ins_at, hk'.1, hk'.2]
    have := h.lo
    rw [hk'.2] at hmin
    omega
  · rw [ins_at]
    have hlo := h.lo
    by_cases c : M' k ≤ M' x
    · rw [Int.min_eq_left c, hk'.2]
      obtain ⟨y, h1, h2, h3⟩ := h.hi
      refine ⟨y, h1, ?_, h3⟩
      rw [(hp.ext y ?_).1]
      · exact h2
      · rcases h1 with h1 | h1
        · rw [h1]; exact hkn
        · exact hst (hσ.inr y h1)
    · rw [Int.min_eq_right (by omega)]
      rw [hk'.2] at c
      obtain ⟨T, _, _, h3, _⟩ := hp.str
      rcases h3 with ⟨y, h4, h5, h6⟩ | h3
      · refine ⟨y, .inr (h.before h4 (by omega)), ?_, (Rch.edge he).trans h6⟩
        rw [(hp.ext y (h.inv.inr y h4)).1]
        exact h5
      · have h4 := hp.seen
        have h5 := h.inv.wb k
        omega
  · obtain ⟨T, h1, h2, h3⟩ := h.str
    obtain ⟨T2, g1, g2, _, g3⟩ := hp.str
    refine ⟨T ++ T2, ?_, fun y hy => ?_, fun a ha y hy hys => ?_⟩
    · rw [g1, h1, List.append_assoc, List.cons_append]
    · rcases List.mem_append.1 hy with hy | hy
      · exact h2 y hy
      · by_cases c : σ.W y = 0
        · exact c
        · exact absurd (g2 y hy) (hst c)
    · rw [ins_at]
      rcases List.mem_append.1 ha with ha | ha
      · have := h3 a ha y hy hys
        rw [hk'.2] at hmin
        rw [hk'.2]
        omega
      · have hys' : y ∈ τ.s := by rw [h1]; exact List.mem_append_left _ hys
        have := g3 a ha y hy hys'
        rw [(h.ext y (hσ.inr y hys)).1] at this
        exact Int.le_trans hmin2 this
  · rw [ins_at]
    rw [hj, List.mem_append, List.mem_singleton] at hy
    rcases hy with hy | hy
    · obtain ⟨h1, h2⟩ := h.old y hy
      refine ⟨by rw [(hp.ext y h1).1]; exact h1, fun q => ?_⟩
      have := h2 q
      rw [hk'.2] at hmin
      rw [hk'.2]
      omega
    · rw [hy]
      refine ⟨?_, fun q => absurd hx (hst (hσ.inr x q))⟩
      have h1 := hp.seen
      have h2 := h.inv.tle
      omega

/-- The node stays on the stack. -/
theorem Lv.stay (h : Lv n es G σ L k j τ M) (hσ : Inv n es G σ) (hj : (suc es k).take j = suc es k) (hl : M k ≠ τ.W k) : Post n es G σ L k τ M := by
  have hlo := h.lo
  obtain ⟨y, h1, h2, h3⟩ := h.hi
  have hy : y ∈ σ.s := by
    rcases h1 with h1 | h1
    · rw [h1] at h2; exact absurd h2.symm hl
    · exact h1
  have hyW := (h.ext y (hσ.inr y hy)).1
  obtain ⟨g, g1, g2, g3⟩ := hσ.back y hy
  have hgW := (h.ext g (hσ.inr g (hσ.gs g g1))).1
  have i := h.inv
  refine ⟨⟨i.wb, i.vis, i.cnt, i.inr, i.asc, fun g hg => i.gs g (List.mem_cons_of_mem _ hg), fun g hg => i.rg g (List.mem_cons_of_mem _ hg), fun x hx => ?_, fun x hx hxg y hy => ?_, i.dcl, i.pcov, i.pok, i.pdj, i.plen⟩, h.ext, h.seen, ?_⟩
  · obtain ⟨q, q1, q2, q3⟩ := i.back x hx
    rcases List.mem_cons.1 q1 with e | e
    · rw [e] at q2 q3
      exact ⟨g, g1, by omega, (q3.trans h3).trans g3⟩
    · exact ⟨q, e, q2, q3⟩
  · by_cases c : x = k
    · rw [c] at hy
      exact (h.old y (by rw [hj]; exact suc_mem.2 hy)).1
    · exact i.blk x hx (by rw [List.mem_cons, not_or]; exact ⟨c, hxg⟩) y hy
  · obtain ⟨T, t1, t2, t3⟩ := h.str
    refine ⟨k :: T, t1, fun x hx => ?_, .inl ⟨y, hy, by omega, h3⟩, fun x hx z hz hzs => ?_⟩
    · rcases List.mem_cons.1 hx with e | e
      · rw [e]; exact h.kz hσ
      · exact t2 x e
    · rcases List.mem_cons.1 hx with e | e
      · rw [e] at hz
        exact (h.old z (by rw [hj]; exact suc_mem.2 hz)).2 hzs
      · exact t3 x e z hz hzs

/-- The node is the first of its part: all from there on is a part. -/
theorem Lv.part {T : List Int} (h : Lv n es G σ L k j τ M) (hσ : Inv n es G σ) (hj : (suc es k).take j = suc es k) (hl : M k = τ.W k) (hT : τ.s = σ.s ++ k :: T) (hT0 : ∀ x ∈ T, σ.W x = 0) (hTe : ∀ x ∈ T, ∀ y, Ed es x y → y ∈ σ.s → M k ≤ σ.W y) :
    Post n es G σ L k ⟨τ.W, σ.s, τ.P ++ [srt (k :: T)], τ.t⟩ M := by
  have i := h.inv
  have hkz := h.kz hσ
  have hsW : ∀ {x}, x ∈ σ.s → τ.W x = σ.W x := fun q => (h.ext _ (hσ.inr _ q)).1
  have hmT : ∀ {x}, x ∈ τ.s ↔ x ∈ σ.s ∨ x ∈ k :: T := fun {x} => by rw [hT, List.mem_append]
  have hTs : ∀ {x}, x ∈ k :: T → x ∉ σ.s := fun {x} q c => by
    rcases List.mem_cons.1 q with e | e
    · rw [e] at c; exact hσ.inr k c hkz
    · exact hσ.inr x c (hT0 x e)
  have hnd := i.nodup
  rw [hT] at hnd
  have hnd2 : (k :: T).Nodup := (List.nodup_append.1 hnd).2.1
  have hasc := i.asc
  rw [hT, List.pairwise_append] at hasc
  have hkle : ∀ {x}, x ∈ k :: T → τ.W k ≤ τ.W x := fun {x} q => by
    rcases List.mem_cons.1 q with e | e
    · rw [e]; exact Int.le_refl _
    · exact Int.le_of_lt ((List.pairwise_cons.1 hasc.2.1).1 x e)
  have hno : ∀ {y}, y ∈ σ.s → ¬ M k ≤ σ.W y := fun {y} q c => by
    have h1 := hσ.wb y
    have h2 := h.seen
    omega
  -- what is seen, and not of the old stack, is closed
  have hA : ∀ x, (τ.W x ≠ 0 ∧ x ∉ σ.s) → ∀ y, Ed es x y → τ.W y ≠ 0 ∧ y ∉ σ.s := by
    rintro x ⟨hx, hxs⟩ y hy
    by_cases c : x ∈ τ.s
    · have c' := (hmT.1 c).resolve_left hxs
      by_cases e : x = k
      · rw [e] at hy
        have := h.old y (by rw [hj]; exact suc_mem.2 hy)
        exact ⟨this.1, fun q => hno q (this.2 q)⟩
      · have hxT : x ∈ T := (List.mem_cons.1 c').resolve_left e
        have hxG : x ∉ k :: G := by
          rw [List.mem_cons, not_or]
          exact ⟨e, fun q => hxs (hσ.gs x q)⟩
        exact ⟨i.blk x c hxG y hy, fun q => hno q (hTe x hxT y hy q)⟩
    · obtain ⟨h1, h2⟩ := i.dcl x hx c y hy
      exact ⟨h1, fun q => h2 (hmT.2 (.inl q))⟩
  have hto : ∀ {x}, x ∈ k :: T → Rch es k x := fun {x} q => i.rg k (List.mem_cons_self ..) x (hmT.2 (.inr q)) (hkle q)
  have hfrom : ∀ {x}, x ∈ k :: T → Rch es x k := fun {x} q => by
    have hx : x ∈ τ.s := hmT.2 (.inr q)
    obtain ⟨g, g1, g2, g3⟩ := i.back x hx
    rcases List.mem_cons.1 g1 with e | e
    · rw [e] at g3; exact g3
    · exact absurd (hσ.gs g e) (rch_closed hA ⟨i.inr x hx, hTs q⟩ g3).2
  have hsm : ∀ {x}, x ∈ srt (k :: T) ↔ x ∈ k :: T := srt_mem
  refine ⟨⟨i.wb, i.vis, i.cnt, fun x hx => ?_, hasc.1, hσ.gs, fun g hg x hx hw => ?_, fun x hx => ?_, fun x hx hxg y hy => ?_, fun x hx hxs y hy => hA x ⟨hx, hxs⟩ y hy, fun x => ?_, fun p hp => ?_, ?_, ?_⟩, h.ext, h.seen, ⟨[], by simp, by simp, .inr hl, by simp⟩⟩
  · show τ.W x ≠ 0
    rw [hsW hx]; exact hσ.inr x hx
  · have hw' : τ.W g ≤ τ.W x := hw
    rw [hsW hx, hsW (hσ.gs g hg)] at hw'
    exact hσ.rg g hg x hx hw'
  · obtain ⟨g, g1, g2, g3⟩ := hσ.back x hx
    refine ⟨g, g1, ?_, g3⟩
    show τ.W g ≤ τ.W x
    rw [hsW hx, hsW (hσ.gs g g1)]
    exact g2
  · have h1 := hσ.blk x hx hxg y hy
    show τ.W y ≠ 0
    rw [(h.ext y h1).1]; exact h1
  · show (τ.W x ≠ 0 ∧ x ∉ σ.s) ↔ ∃ p ∈ τ.P ++ [srt (k :: T)], x ∈ p
    constructor
    · rintro ⟨h1, h2⟩
      by_cases c : x ∈ τ.s
      · exact ⟨_, List.mem_append_right _ (List.mem_singleton.2 rfl), hsm.2 ((hmT.1 c).resolve_left h2)⟩
      · obtain ⟨p, p1, p2⟩ := (i.pcov x).1 ⟨h1, c⟩
        exact ⟨p, List.mem_append_left _ p1, p2⟩
    · rintro ⟨p, p1, p2⟩
      rcases List.mem_append.1 p1 with p1 | p1
      · obtain ⟨h1, h2⟩ := (i.pcov x).2 ⟨p, p1, p2⟩
        exact ⟨h1, fun q => h2 (hmT.2 (.inl q))⟩
      · rw [List.mem_singleton.1 p1] at p2
        have := hsm.1 p2
        exact ⟨i.inr x (hmT.2 (.inr this)), hTs this⟩
  · rcases List.mem_append.1 hp with hp | hp
    · exact i.pok p hp
    · rw [List.mem_singleton.1 hp]
      refine ⟨fun e => ?_, srt_lt hnd2, fun x hx y => ⟨fun hy => ?_, ?_⟩⟩
      · have := srt_length (k :: T)
        rw [e] at this
        simp at this
      · exact ⟨(hfrom (hsm.1 hx)).trans (hto (hsm.1 hy)), (hfrom (hsm.1 hy)).trans (hto (hsm.1 hx))⟩
      · rintro ⟨h1, h2⟩
        have hx' := hsm.1 hx
        have hxs : x ∈ τ.s := hmT.2 (.inr hx')
        have hy := rch_closed hA ⟨i.inr x hxs, hTs hx'⟩ h1
        refine hsm.2 ?_
        by_cases c : y ∈ τ.s
        · exact (hmT.1 c).resolve_left hy.2
        · exact absurd hxs (rch_closed (A := fun z => τ.W z ≠ 0 ∧ z ∉ τ.s) (fun z hz => i.dcl z hz.1 hz.2) ⟨hy.1, c⟩ h2).2
  · show (τ.P ++ [srt (k :: T)]).Pairwise _
    rw [List.pairwise_append]
    refine ⟨i.pdj, by simp, fun p hp q hq x hx => ?_⟩
    rw [List.mem_singleton.1 hq, hsm]
    exact fun c => ((i.pcov x).2 ⟨p, hp, hx⟩).2 (hmT.2 (.inr c))
  · have := i.plen
    rw [hT] at this
    show (τ.P ++ [srt (k :: T)]).length + σ.s.length + wh τ.W n ≤ n
    simp only [List.length_append, List.length_cons, List.length_nil] at this ⊢
    omega

/-! ### The visit -/
def Goes (n : Nat) (es : List TEdge) (m : Nat) : Prop := ∀ (G : List Int) (σ : St) (L : Int → Int) (k : Int), wh σ.W n ≤ m → Inv n es G σ → σ.W k = 0 → 0 ≤ k → k < n → (∀ g ∈ G, Rch es g k) →
  ∃ σ' L', m22_graph_walker_visitR m (tab n (suc es)) (tab n σ.W) (tab n L) σ.s σ.P σ.t k = some (tab n σ'.W, tab n L', σ'.s, σ'.P, σ'.t) ∧ Post n es G σ L k σ' L'
theorem bind5_some {a b c d e ρ : Type} {u : a} {v : b} {x : c} {y : d} {z : e} {f : a → b → c → d → e → Option ρ} : bind5 (some (u, v, x, y, z)) f = f u v x y z := rfl
theorem leave_ok (hn : n ≤ 60) (h : Lv n es G σ L k j τ M) (hσ : Inv n es G σ) (h0 : 0 ≤ k) (h1 : k < n) (hj : (suc es k).take j = suc es k) :
    ∃ σ' L', m22_graph_walker_visit_K1 k (tab n τ.W) (tab n M) τ.s τ.P τ.t = some (tab n σ'.W, tab n L', σ'.s, σ'.P, σ'.t) ∧ Post n es G σ L k σ' L' := by
  rw [m22_graph_walker_visit_K1, tab_idx h0 h1, bind1_some, tab_idx h0 h1, bind1_some]
  by_cases c : M k = τ.W k
  · obtain ⟨T, t1, t2, t3⟩ := h.str
    have hl := h.inv.plen
    have hks : k ∉ σ.s := fun q => hσ.inr k q (h.kz hσ)
    have hi := index_eq τ.s (by omega) k
    have hlen : τ.s.length = σ.s.length + (T.length + 1) := by rw [t1, List.length_append, List.length_cons]
    rw [t1, ixF_app T σ.s 0 hks, Nat.zero_add, ← t1] at hi
    have hcd : cut τ.s (σ.s.length : Int) (τ.s.length : Int) = some (k :: T) := by
      rw [cut_drop _ _ (by omega), t1, List.drop_left]
    have hct : cut τ.s 0 (σ.s.length : Int) = some σ.s := by
      rw [cut_take _ _ (by omega), t1, List.take_left]
    have hcl : m25_slices_Clone_int (k :: T) = some (k :: T) := by
      rw [m25_slices_Clone_int, app_ok (by simp only [List.length_cons, List.length_nil]; omega), bind1_some, List.nil_append]
    refine ⟨_, _, ?_, h.part hσ hj c t1 t2 t3⟩
    rw [if_pos c, hi, bind1_some, hcd, bind1_some, hcl, bind1_some, xSort_ok (by simp only [List.length_cons]; omega), bind1_some, app_ok (by simp only [List.length_cons, List.length_nil]; omega), bind1_some, hct, bind1_some]
  · rw [if_neg c]
    exact ⟨_, _, rfl, h.stay hσ hj c⟩
theorem visitL (hn : n ≤ 60) (hl : es.length ≤ 2000) (hR : InR n es) {m : Nat} (hrec : Goes n es m) (hσ : Inv n es G σ) (hm : wh σ.W n ≤ m + 1) (h0 : 0 ≤ k) (h1 : k < n) (hg : ∀ g ∈ G, Rch es g k) : ∀ (r j : Nat), j + r = (suc es k).length → ∀ τ M, Lv n es G σ L k j τ M → ∀ q, r < q →
    ∃ σ' L', m22_graph_walker_visit_L1 (suc es k) (m22_graph_walker_visitR m) (tab n (suc es)) k q (j : Int) (tab n τ.W) (tab n M) τ.s τ.P τ.t = some (tab n σ'.W, tab n L', σ'.s, σ'.P, σ'.t) ∧ Post n es G σ L k σ' L' := by
  have hsl := suc_len es k
  intro r
  induction r with
  | zero =>
    intro j hj τ M h q hq
    obtain ⟨q, rfl⟩ := dec q hq
    rw [m22_graph_walker_visit_L1, m22_graph_walker_visit_L1B, if_neg (by omega)]
    exact leave_ok hn h hσ h0 h1 (List.take_of_length_le (by omega))
  | succ r ih =>
    intro j hj τ M h q hq
    obtain ⟨q, rfl⟩ := dec q (by omega)
    have hjl : j < (suc es k).length := by omega
    have he : Ed es k (suc es k)[j] := suc_mem.1 (List.getElem_mem hjl)
    obtain ⟨_, _, x0, x1⟩ := hR _ he
    have htk := take_snoc hjl
    have hlen := h.inv.plen
    rw [m22_graph_walker_visit_L1, m22_graph_walker_visit_L1B, if_pos (by omega), idx_ok hjl, bind1_some]
    generalize (suc es k)[j] = x at he x0 x1 htk ⊢
    have x1' : x < n := x1
    have x0' : 0 ≤ x := x0
    rw [tab_idx x0' x1', bind1_some]
    by_cases c : τ.W x = 0
    · have hkg : ∀ g ∈ k :: G, Rch es g x := fun g hgm => by
        rcases List.mem_cons.1 hgm with e | e
        · rw [e]; exact Rch.edge he
        · exact (hg g e).trans (Rch.edge he)
      have hwh : wh τ.W n ≤ m := by
        have a1 := h.inv.cnt
        have a2 := hσ.cnt
        have a3 := h.seen
        have a4 := h.inv.wb k
        omega
      obtain ⟨τ', M', e1, hp⟩ := hrec (k :: G) τ M x hwh h.inv c x0' x1' hkg
      rw [if_pos c, m22_graph_walker_visit_K2, if_pos rfl, e1, bind5_some, tab_idx h0 h1, bind1_some, tab_idx x0' x1', bind1_some, bind1_some, tab_upd _ h0 h1, bind1_some, isucc j (by omega), bind1_some]
      exact ih (j + 1) (by omega) τ' _ (h.deep hσ htk c he hp) q (by omega)
    · rw [if_neg c, m22_graph_walker_visit_K2, if_neg ff, contains_eq τ.s (by omega) x, bind1_some]
      by_cases c2 : x ∈ τ.s
      · rw [if_pos (decide_eq_true c2), tab_idx h0 h1, bind1_some, tab_idx x0' x1', bind1_some, bind1_some, tab_upd _ h0 h1, bind1_some, isucc j (by omega), bind1_some]
        exact ih (j + 1) (by omega) τ _ (h.look hσ htk c c2 he) q (by omega)
      · rw [if_neg (by simp [c2]), isucc j (by omega), bind1_some]
        exact ih (j + 1) (by omega) τ M (h.skip htk c c2) q (by omega)
theorem goes (hn : n ≤ 60) (hl : es.length ≤ 2000) (hR : InR n es) : ∀ m, Goes n es m
  | 0 => fun G σ L k hm hσ hk h0 h1 hg => absurd (wh_pos hk h0 h1) (by omega)
  | m + 1 => fun G σ L k hm hσ hk h0 h1 hg => by
    have ht := hσ.tle
    have hsl := suc_len es k
    have hlen := hσ.plen
    have h := visitL (L := L) hn hl hR (goes hn hl hR m) hσ hm h0 h1 hg (suc es k).length 0 (by omega) _ _ (begin_ok hσ hk h0 h1 hg) big (lt_big (by omega))
    have hap : app σ.s [k] = some (σ.s ++ [k]) := app_ok (by simp only [List.length_cons, List.length_nil]; omega)
    rw [m22_graph_walker_visitR, m22_graph_walker_visitB, i64_ok (by omega) (by omega), bind1_some, tab_idx h0 h1, bind1_some, tab_upd _ h0 h1, bind1_some, tab_idx h0 h1, bind1_some, tab_upd _ h0 h1, bind1_some, hap, bind1_some, tab_idx h0 h1, bind1_some]
    exact h
end Go.Proofs.Ytjhcdmcikodgkaa
