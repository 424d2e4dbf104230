/-
  Package pool: step by step, what is kept is what the document keeps.
  Conditions: none.
-/
import Derived.Test.YtfmgjigdebofaaaPoR
namespace Go.Proofs.Ytfmgjigdebofaaa
open Go.S
set_option linter.unusedVariables false
set_option linter.unusedSimpArgs false
abbrev PR := List Bool × List Int
section
variable {refs : List Int} {rule s : Int} {i n : Nat} {c K : KL} {hits : List Bool} {r : PR}
theorem ref_hit (hi : i < refs.length) (hl : refs.length ≤ 2000) (hh : hits.length ≤ 2000) (hK : Kp K c i) (hx : refs[i] ∈ K.map Prod.fst) :
    m70_quirref_Pool_L3 refs rule s (n + 1) hits i c = m70_quirref_Pool_L3 refs rule s n (hits ++ [true]) ((i + 1 : Nat) : Int) (if rule = 1 then mset c refs[i] i else c) := by
  rw [m70_quirref_Pool_L3, m70_quirref_Pool_L3B, if_pos (by omega), idx_ok hi, bind1_some, if_pos (hK.has.2 hx), m70_quirref_Pool_K5, if_pos rfl, app_ok (by simp only [List.length_singleton]; omega), bind1_some]
  by_cases h1 : rule = 1
  · rw [if_pos h1, if_pos h1, bind1_some, m70_quirref_Pool_K4, isucc i (by omega), bind1_some]
  · rw [if_neg h1, if_neg h1, m70_quirref_Pool_K4, isucc i (by omega), bind1_some]
theorem ref_room (hi : i < refs.length) (hl : refs.length ≤ 2000) (hh : hits.length ≤ 2000) (hK : Kp K c i) (hx : refs[i] ∉ K.map Prod.fst) (hs : (K.length : Int) ≠ s) :
    m70_quirref_Pool_L3 refs rule s (n + 1) hits i c = m70_quirref_Pool_L3 refs rule s n (hits ++ [false]) ((i + 1 : Nat) : Int) (mset c refs[i] i) := by
  rw [m70_quirref_Pool_L3, m70_quirref_Pool_L3B, if_pos (by omega), idx_ok hi, bind1_some, if_neg (fun h => hx (hK.has.1 h)), m70_quirref_Pool_K5, if_neg ff, app_ok (by simp only [List.length_singleton]; omega), bind1_some,
    if_neg (by rw [hK.perm.length_eq]; exact hs), bind1_some, m70_quirref_Pool_K4, isucc i (by omega), bind1_some]
theorem ref_full (hi : i < refs.length) (hl : refs.length ≤ 2000) (hh : hits.length ≤ 2000) (hK : Kp K c i) (hx : refs[i] ∉ K.map Prod.fst) (hs : (K.length : Int) = s) (hk : K.length ≤ 50) {p0 t0 : Int} (hp : (p0, t0) ∈ K)
    (hmin : ∀ z ∈ K, z = (p0, t0) ∨ lt2 (k0 rule refs i p0) t0 (k0 rule refs i z.1) z.2) (hr : m70_quirref_Pool_L3 refs rule s n (hits ++ [false]) ((i + 1 : Nat) : Int) (mset (mdel c p0) refs[i] i) = some r) :
    m70_quirref_Pool_L3 refs rule s (n + 1) hits i c = some r := by
  have hcl := hK.perm.length_eq
  rw [m70_quirref_Pool_L3, m70_quirref_Pool_L3B, if_pos (by omega), idx_ok hi, bind1_some, if_neg (fun h => hx (hK.has.1 h)), m70_quirref_Pool_K5, if_neg ff, app_ok (by simp only [List.length_singleton]; omega), bind1_some,
    if_pos (by rw [hcl]; exact hs), show arrN 2 (List.replicate 2 (0 : Int)) = some (List.replicate 2 (0 : Int)) from rfl, bind1_some, bind1_some]
  refine argmin (p0 := p0) (t0 := t0) (by omega) (by omega) ?_ c.length c (-1) true 0 0 big rfl (lt_big (by omega)) (Or.inl rfl) (fun q hq => hmin q (hK.perm.mem_iff.1 hq)) (Or.inl (hK.perm.mem_iff.2 hp))
  rw [m70_quirref_Pool_K7, m70_quirref_Pool_K6, bind1_some, m70_quirref_Pool_K4, isucc i (by omega), bind1_some]
  exact hr
end
theorem sim {refs : List Int} {s : Nat} (hs : 1 ≤ s ∧ s ≤ 50) (hl : refs.length ≤ 2000) {rule : Int} {L : Nat → List Bool → List Int → Int → Option (List Bool × List Int × Int)}
    (hend : ∀ n hits kept, L (n + 1) hits kept refs.length = some (hits, kept, 0))
    (hhit : ∀ n hits kept (i : Nat) (hi : i < refs.length), hits.length ≤ 2000 → kept.length ≤ 50 → refs[i] ∈ kept → L (n + 1) hits kept i = L n (hits ++ [true]) (if rule = 1 then kept.take (ixN refs[i] kept) ++ kept.drop (ixN refs[i] kept + 1) ++ [refs[i]] else kept) ((i + 1 : Nat) : Int))
    (hroom : ∀ n hits kept (i : Nat) (hi : i < refs.length), hits.length ≤ 2000 → kept.length ≤ 50 → refs[i] ∉ kept → kept.length ≠ s → L (n + 1) hits kept i = L n (hits ++ [false]) (kept ++ [refs[i]]) ((i + 1 : Nat) : Int))
    (hfull : ∀ n hits (K : KL) (i : Nat) (hi : i < refs.length), hits.length ≤ 2000 → K.Pairwise (fun a b => a.2 < b.2) → (K.map Prod.fst).Nodup → K.length = s → refs[i] ∉ K.map Prod.fst →
      ∃ (q : Nat) (hq : q < K.length), (∀ z ∈ K, z = K[q] ∨ lt2 (k0 rule refs i K[q].1) K[q].2 (k0 rule refs i z.1) z.2) ∧ L (n + 1) hits (K.map Prod.fst) i = L n (hits ++ [false]) ((K.map Prod.fst).take q ++ (K.map Prod.fst).drop (q + 1) ++ [refs[i]]) ((i + 1 : Nat) : Int)) :
    ∀ (d i : Nat), i + d = refs.length → ∀ hits (K c : KL), hits.length = i → K.length ≤ s → Kp K c i → ∀ n n', d < n → d < n' →
      ∃ h' k', L n hits (K.map Prod.fst) i = some (h', k', 0) ∧ m70_quirref_Pool_L3 refs rule s n' hits i c = some (h', k') ∧ h'.length ≤ 2000 ∧ k'.length ≤ 50 := by
  intro d
  induction d with
  | zero =>
    intro i hi hits K c hh hk hK n n' hn hn'
    obtain ⟨n, rfl⟩ := dec n hn
    obtain ⟨n', rfl⟩ := dec n' hn'
    have hi' : i = refs.length := by omega
    subst hi'
    refine ⟨hits, K.map Prod.fst, hend _ _ _, ?_, by omega, by rw [List.length_map]; omega⟩
    rw [m70_quirref_Pool_L3, m70_quirref_Pool_L3B, if_neg (by omega), m70_quirref_Pool_K1]
    have := outer (hs := hits) (c := c) (by omega : refs.length ≤ 1000000) (by rw [hK.perm.length_eq]; omega) refs.length 0 [] K (by omega) (by simp) (fun q hq => (hK.lo q hq).1) hK big (lt_big (by omega))
    exact this
  | succ d ih =>
    intro i hi hits K c hh hk hK n n' hn hn'
    obtain ⟨n, rfl⟩ := dec n (by omega)
    obtain ⟨n', rfl⟩ := dec n' (by omega)
    have hi' : i < refs.length := by omega
    have hkl : (K.map Prod.fst).length = K.length := List.length_map ..
    by_cases hx : refs[i] ∈ K.map Prod.fst
    · rw [hhit n hits _ i hi' (by omega) (by omega) hx, ref_hit hi' hl (by omega) hK hx]
      by_cases h1 : rule = 1
      · rw [if_pos h1, if_pos h1]
        have hq := (ixN_mem refs[i] (K.map Prod.fst)).2 hx
        have hq' : ixN refs[i] (K.map Prod.fst) < K.length := by omega
        have hg : K[ixN refs[i] (K.map Prod.fst)].1 = refs[i] := by rw [← List.getElem_map (h := hq)]; exact ixN_get _ _ hq
        have hf := filt_map hK.nd _ hq'
        rw [hg] at hf
        rw [← hf, show [refs[i]] = [(refs[i], (i : Int))].map Prod.fst from rfl, ← List.map_append]
        refine ih (i + 1) (by omega) _ _ _ (by simp [hh]) ?_ (hK.touch (by omega) hx) n n' (by omega) (by omega)
        have h3 : ((K.filter fun p => !decide (p.1 = refs[i])).map Prod.fst).length < K.length := by
          rw [hf, List.length_append, List.length_take, List.length_drop]; omega
        rw [List.length_map] at h3
        rw [List.length_append, List.length_singleton]
        omega
      · rw [if_neg h1, if_neg h1]
        refine ih (i + 1) (by omega) _ _ _ (by simp [hh]) hk ⟨hK.perm, hK.srt, hK.nd, fun p hp => ?_⟩ n n' (by omega) (by omega)
        have := hK.lo p hp
        omega
    · by_cases hsz : K.length = s
      · obtain ⟨q, hq, hmin, he⟩ := hfull n hits K i hi' (by omega) hK.srt hK.nd hsz hx
        rw [he]
        have hf := filt_map hK.nd _ hq
        have hnx : refs[i] ∉ (K.filter fun p => !decide (p.1 = K[q].1)).map Prod.fst := by
          intro h
          obtain ⟨p, hp, hpx⟩ := List.mem_map.1 h
          exact hx (by rw [← hpx]; exact List.mem_map.2 ⟨p, (List.mem_filter.1 hp).1, rfl⟩)
        rw [← hf, show [refs[i]] = [(refs[i], (i : Int))].map Prod.fst from rfl, ← List.map_append]
        have h3 : ((K.filter fun p => !decide (p.1 = K[q].1)).map Prod.fst).length < K.length := by
          rw [hf, List.length_append, List.length_take, List.length_drop]; omega
        rw [List.length_map] at h3
        obtain ⟨h', k', g1, g2, g3⟩ := ih (i + 1) (by omega) (hits ++ [false]) _ _ (by simp [hh]) (by rw [List.length_append, List.length_singleton]; omega) ((hK.del K[q].1).add (by omega) hnx) n n' (by omega) (by omega)
        exact ⟨h', k', g1, ref_full (p0 := K[q].1) (t0 := K[q].2) hi' hl (by omega) hK hx (by omega) (by omega) (List.getElem_mem hq) hmin g2, g3⟩
      · rw [hroom n hits _ i hi' (by omega) (by omega) hx (by omega), ref_room hi' hl (by omega) hK hx (by omega), show [refs[i]] = [(refs[i], (i : Int))].map Prod.fst from rfl, ← List.map_append]
        exact ih (i + 1) (by omega) _ _ _ (by simp [hh]) (by rw [List.length_append, List.length_singleton]; omega) (hK.add (by omega) hx) n n' (by omega) (by omega)
end Go.Proofs.Ytfmgjigdebofaaa
