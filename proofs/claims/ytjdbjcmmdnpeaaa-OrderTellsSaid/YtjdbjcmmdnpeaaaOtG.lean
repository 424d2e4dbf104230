/-
  Both tell the same story; one that is the same is told to be so: the law answers true.
  Conditions: none.
-/
import Derived.Test.YtjdbjcmmdnpeaaaOtF
import Derived.Test.YtjdbjcmmdnpeaaaOtO
namespace Go.Proofs.Ytjdbjcmmdnpeaaa
open Go.S Go.Sort
set_option linter.unusedVariables false
set_option linter.unusedSimpArgs false
section
variable {a0 : List TOp} {a1 : List TDid}
theorem lim_of {z : List TTale} {n : Nat} (hn : n ≤ 200) (hz : ∀ t ∈ z, t ∈ tal a0 a1 n) : Lim ⟨z, vers a0 a1 n⟩ :=
  ⟨fun t ht => Nat.le_trans (tal_rd n t (hz t ht)) (by omega), fun l hl => Nat.le_trans (vers_mem hl) (by omega)⟩
theorem inc_all {s : TStory} (h : GoodS s) : s.Tales.Pairwise fun a b => a.Tx < b.Tx := by
  rw [List.pairwise_iff_getElem]
  intro i j hi hj hij
  have key : ∀ (d i : Nat) (h1 : i + d + 1 < s.Tales.length), s.Tales[i].Tx < s.Tales[i + d + 1].Tx := by
    intro d
    induction d with
    | zero => intro i h1; exact h.inc i h1
    | succ d ih =>
      intro i h1
      have h2 := ih i (by omega)
      have h3 := h.inc (i + d + 1) (by omega)
      have h4 : s.Tales[i + d + 1 + 1].Tx = s.Tales[i + (d + 1) + 1].Tx := rfl
      omega
  have := key (j - i - 1) i (by omega)
  have e : i + (j - i - 1) + 1 = j := by omega
  simp only [e] at this
  exact this
theorem apart_of {z l : List TTale} (hp : z.Perm l) (h : z.Pairwise fun a b => a.Tx < b.Tx) : (l.map TTale.Tx).Nodup := by
  have h1 : (z.map TTale.Tx).Nodup := by
    unfold List.Nodup
    rw [List.pairwise_map]
    exact h.imp fun h => by omega
  exact (hp.map _).nodup_iff.1 h1
theorem sorted_le {z : List TTale} (h : SortedBy cfT z) : z.Pairwise fun a b => a.Tx ≤ b.Tx := by
  unfold SortedBy at h
  refine h.imp fun {a b} h => ?_
  rw [lt9] at h
  have := of_decide_eq_false h
  omega
theorem tx_inj : ∀ {l : List TTale}, (l.map TTale.Tx).Nodup → ∀ a ∈ l, ∀ b ∈ l, a.Tx = b.Tx → a = b
  | [], _, a, ha, _, _, _ => by cases ha
  | c :: l, hn, a, ha, b, hb, hab => by
    rw [List.map_cons, List.nodup_cons] at hn
    rcases List.mem_cons.1 ha with rfl | ha' <;> rcases List.mem_cons.1 hb with rfl | hb'
    · rfl
    · exact absurd (List.mem_map.2 ⟨b, hb', hab.symm⟩) hn.1
    · exact absurd (List.mem_map.2 ⟨a, ha', hab⟩) hn.1
    · exact tx_inj hn.2 a ha' b hb' hab
theorem same_of {z l : List TTale} (hp : z.Perm l) (hz : SortedBy cfT z) (hl : l.Pairwise fun a b => a.Tx ≤ b.Tx) (hn : (l.map TTale.Tx).Nodup) : z = l := by
  refine List.Perm.eq_of_pairwise (le := fun a b => a.Tx ≤ b.Tx) (fun a b ha hb h1 h2 => ?_) (sorted_le hz) hl hp
  exact tx_inj hn a (hp.mem_iff.1 ha) b hb (by omega)
/-- Both tell this. -/
theorem both_tell (hd : a1.length = a0.length) (hn : a0.length ≤ 200) : ∃ T E, m4_order_Of a0 a1 = some (T, E) ∧ m5_quirref_Story a0 a1 = some (T, E) ∧ T.Tales.length ≤ 200 ∧ T.Versions.length ≤ 200 ∧ Lim T := by
  rw [of_eq hd hn, story_is hd hn]
  have hlim0 : Lim ⟨[], []⟩ := ⟨by simp, by simp⟩
  by_cases hok : ∀ o ∈ a0, okOp o
  · rw [if_pos hok, if_pos hok, ofEnd, m4_order_Of_K2, cf9, m5_quirref_Story_K3]
    generalize hN : a0.length = N at *
    have hps := sor_perm (a0 := a0) (a1 := a1) N
    have hlimS : Lim ⟨sor a0 a1 N, vers a0 a1 N⟩ := lim_of hn fun t ht => hps.mem_iff.1 ht
    obtain ⟨e, he1, he2, heg⟩ := story_eq _ hlimS
    have htl := tal_len (a0 := a0) (a1 := a1) N
    have hsl : (sor a0 a1 N).length ≤ 200 := by rw [hps.length_eq]; omega
    rw [he1, bind1_some]
    by_cases hnd : ((sor a0 a1 N).map TTale.Tx).Nodup
    · -- no transaction twice: one order
      have hz : ∀ z : List TTale, z.Perm (tal a0 a1 N) → SortedBy cfT z → z = sor a0 a1 N := fun z hp hs => same_of (hp.trans hps.symm) hs (sor_sorted N) hnd
      by_cases c : e ≠ 0
      · rw [if_pos c]
        refine ⟨⟨[], []⟩, 4, anySort_of swo9' (by omega) (fun z hp hs => ?_), rfl, by simp, by simp, hlim0⟩
        rw [hz z hp hs, he2, bind1_some, if_pos c]
      · rw [if_neg c]
        refine ⟨_, 0, anySort_of swo9' (by omega) (fun z hp hs => ?_), rfl, hsl, by rw [vers_len]; omega, hlimS⟩
        rw [hz z hp hs, he2, bind1_some, if_neg c]
    · have hbad : ∀ z : List TTale, z.Perm (tal a0 a1 N) → ∀ e, m11_order_Check ⟨z, vers a0 a1 N⟩ = some e → (e = 0 → GoodS ⟨z, vers a0 a1 N⟩) → e ≠ 0 := by
        intro z hp e _ hg h0
        exact hnd (apart_of (hp.trans hps.symm) (inc_all (hg h0)))
      have c : e ≠ 0 := hbad _ hps e he2 heg
      rw [if_pos c]
      refine ⟨⟨[], []⟩, 4, anySort_of swo9' (by omega) (fun z hp hs => ?_), rfl, by simp, by simp, hlim0⟩
      obtain ⟨e', h1, h2, h3⟩ := story_eq ⟨z, vers a0 a1 N⟩ (lim_of hn fun t ht => hp.mem_iff.1 ht)
      rw [h2, bind1_some, if_pos (hbad z hp e' h2 h3)]
  · rw [if_neg hok, if_neg hok]
    exact ⟨_, _, rfl, rfl, by simp, by simp, hlim0⟩
end
/-! ### The same -/
theorem gotL (l : List TGot) (hl : l.length ≤ 1048576) : ∀ (r i : Nat), i + r = l.length → ∀ n, r < n → m17_api_Got_L1 l l n (i : Int) = some true := by
  intro r
  induction r with
  | zero =>
    intro i hi n hn
    obtain ⟨n, rfl⟩ := dec n hn
    rw [m17_api_Got_L1, m17_api_Got_L1B, if_neg (by omega), m17_api_Got_K2]
  | succ r ih =>
    intro i hi n hn
    obtain ⟨n, rfl⟩ := dec n (by omega)
    have h1 : i < l.length := by omega
    rw [m17_api_Got_L1, m17_api_Got_L1B, if_pos (by omega), idx_ok h1, bind1_some, bind1_some, if_neg (fun h => h rfl), isucc i (by omega), bind1_some]
    exact ih (i + 1) (by omega) n (by omega)
theorem got_self (l : List TGot) (hl : l.length ≤ 1048576) : m17_api_Got l l = some true := by
  rw [m17_api_Got, if_neg (fun h => h rfl), m17_api_Got_K1]
  exact gotL l hl l.length 0 (by omega) big (lt_big (by omega))
theorem sameV2 (l : List Int) (hl : l.length ≤ 1048576) (g : Int) (go1 : Int → Option Bool) : ∀ (r i : Nat), i + r = l.length → ∀ n, r < n → m6_quirref_SameStory_L2 l l g go1 n (i : Int) = m6_quirref_SameStory_K5 g go1 true := by
  intro r
  induction r with
  | zero =>
    intro i hi n hn
    obtain ⟨n, rfl⟩ := dec n hn
    rw [m6_quirref_SameStory_L2, m6_quirref_SameStory_L2B, if_neg (by omega), m6_quirref_SameStory_K7]
  | succ r ih =>
    intro i hi n hn
    obtain ⟨n, rfl⟩ := dec n (by omega)
    have h1 : i < l.length := by omega
    rw [m6_quirref_SameStory_L2, m6_quirref_SameStory_L2B, if_pos (by omega), idx_ok h1, bind1_some, bind1_some, if_neg (fun h => h rfl), isucc i (by omega), bind1_some]
    exact ih (i + 1) (by omega) n (by omega)
theorem sameV (s : TStory) (hs : s.Versions.length ≤ 200) (hlim : Lim s) : ∀ (r i : Nat), i + r = s.Versions.length → ∀ n, r < n → m6_quirref_SameStory_L1 s s n (i : Int) = some true := by
  intro r
  induction r with
  | zero =>
    intro i hi n hn
    obtain ⟨n, rfl⟩ := dec n hn
    rw [m6_quirref_SameStory_L1, m6_quirref_SameStory_L1B, if_neg (by omega), m6_quirref_SameStory_K4, m6_quirref_SameStory_K2]
  | succ r ih =>
    intro i hi n hn
    obtain ⟨n, rfl⟩ := dec n (by omega)
    have h1 : i < s.Versions.length := by omega
    have hl := hlim.vs _ (List.getElem_mem h1)
    have h2 := sameV2 s.Versions[i] hl (i : Int) (m6_quirref_SameStory_L1 s s n) s.Versions[i].length 0 (by omega) big (lt_big (by omega))
    rw [show ((0 : Nat) : Int) = 0 from rfl] at h2
    rw [m6_quirref_SameStory_L1, m6_quirref_SameStory_L1B, if_pos (by omega), idx_ok h1, bind1_some, bind1_some, if_neg (fun h => h rfl), m6_quirref_SameStory_K6, h2, m6_quirref_SameStory_K5, if_pos rfl, isucc i (by omega), bind1_some]
    exact ih (i + 1) (by omega) n (by omega)
theorem sameT (s : TStory) (ht : s.Tales.length ≤ 200) (hs : s.Versions.length ≤ 200) (hlim : Lim s) : ∀ (r i : Nat), i + r = s.Tales.length → ∀ n, r < n → m6_quirref_SameStory_L3 s s n (i : Int) = some true := by
  intro r
  induction r with
  | zero =>
    intro i hi n hn
    obtain ⟨n, rfl⟩ := dec n hn
    have h2 := sameV s hs hlim s.Versions.length 0 (by omega) big (lt_big (by omega))
    rw [show ((0 : Nat) : Int) = 0 from rfl] at h2
    rw [m6_quirref_SameStory_L3, m6_quirref_SameStory_L3B, if_neg (by omega), m6_quirref_SameStory_K9, m6_quirref_SameStory_K1, if_pos rfl, if_neg (fun h => h rfl), m6_quirref_SameStory_K3, h2]
  | succ r ih =>
    intro i hi n hn
    obtain ⟨n, rfl⟩ := dec n (by omega)
    have h1 : i < s.Tales.length := by omega
    have hl := hlim.rd _ (List.getElem_mem h1)
    rw [m6_quirref_SameStory_L3, m6_quirref_SameStory_L3B, if_pos (by omega), idx_ok h1, bind1_some, bind1_some, if_pos rfl, got_self _ hl, bind1_some, m6_quirref_SameStory_K10, if_pos rfl, isucc i (by omega), bind1_some]
    exact ih (i + 1) (by omega) n (by omega)
theorem same_self (s : TStory) (ht : s.Tales.length ≤ 200) (hs : s.Versions.length ≤ 200) (hlim : Lim s) : m6_quirref_SameStory s s = some true := by
  rw [m6_quirref_SameStory, if_neg (fun h => h rfl), m6_quirref_SameStory_K8]
  exact sameT s ht hs hlim s.Tales.length 0 (by omega) big (lt_big (by omega))
theorem tells_true (a0 : List TOp) (a1 : List TDid) : m3_quirlaw_OrderTells a0 a1 = some true := by
  have key : ∃ T E, m4_order_Of a0 a1 = some (T, E) ∧ m5_quirref_Story a0 a1 = some (T, E) ∧ T.Tales.length ≤ 200 ∧ T.Versions.length ≤ 200 ∧ Lim T := by
    by_cases c1 : a1.length = a0.length
    · by_cases c2 : a0.length ≤ 200
      · exact both_tell c1 c2
      · refine ⟨⟨[], []⟩, 1, ?_, ?_, by simp, by simp, by simp, by simp⟩
        · rw [m4_order_Of, if_neg (by omega), if_pos (by omega)]
        · rw [m5_quirref_Story, if_neg (by omega), if_pos (by omega)]
    · refine ⟨⟨[], []⟩, 1, ?_, ?_, by simp, by simp, by simp, by simp⟩
      · rw [m4_order_Of, if_pos (by omega)]
      · rw [m5_quirref_Story, if_pos (by omega)]
  obtain ⟨T, E, h1, h2, h3, h4, h5⟩ := key
  rw [m3_quirlaw_OrderTells, h1, bind2_some, h2, bind2_some, same_self T h3 h4 h5, bind1_some, if_pos rfl]
  simp
end Go.Proofs.Ytjdbjcmmdnpeaaa
