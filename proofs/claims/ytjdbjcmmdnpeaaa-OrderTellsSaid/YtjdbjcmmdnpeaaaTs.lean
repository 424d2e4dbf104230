/-
  Things by keys, each with a slice that grows: the slices may be given away as they then are, and grow on.
  Conditions: none.
-/
import Derived.Test.YtjdbjcmmdnpeaaaFp
import Derived.Test.YtjdbjcmmdnpeaaaPt
import Derived.Test.YtjdbjcmmdnpeaaaSk
namespace Go.S
set_option linter.unusedVariables false
set_option linter.unusedSimpArgs false
section
variable {v v' u : Value} {e : TypeId} {k : Nat} {rows rows' more : List (List Value)} {w0 w w' : World} {own : List Nat} {m : List As} {i b : Nat}
/-- What may be shared of a slice's block. -/
theorem At.block {g n c : Nat} (h : At w (.slice (some ⟨g, 0, none⟩) n c) k rows) (hb : w'.heap[g]? = w.heap[g]?) : At w' (.slice (some ⟨g, 0, none⟩) n c) k rows := by
  refine ⟨h.shape, h.len, fun i r j x h1 h2 => ?_⟩
  have hx := h.cell i r j x h1 h2
  have hblk : ((adr (.slice (some ⟨g, 0, none⟩) n c)).add (i * k + j)).block = g := by
    simp only [adr]; unfold Addr.add; split <;> rfl
  rw [World.cell?_of_block (w := w)]
  · exact hx
  · rw [hblk]; exact hb
/-- The first rows of what lies in the same place. -/
theorem At.prefix {g n c n' c' : Nat} {r1 : List (List Value)} (h : At w (.slice (some ⟨g, 0, none⟩) n c) k rows) (h0 : At w' (.slice (some ⟨g, 0, none⟩) n' c') k r1) (hp : r1 <+: rows) : At w (.slice (some ⟨g, 0, none⟩) n' c') k r1 := by
  obtain ⟨q, rfl⟩ := hp
  refine ⟨h0.shape, h0.len, fun i r j x h1 h2 => ?_⟩
  have := h.cell i r j x (by rw [List.getElem?_append_left (List.getElem?_eq_some_iff.1 h1).1]; exact h1) h2
  exact this
theorem slHolds.at (h : slHolds w v e k rows) : At w v k rows := As.at_ (e := e) h
structure TsH (F : List Nat) (us : Int → Value) (e : TypeId) (k : Nat) (tl : List (Int × List (List Value))) (V : List Sd) (w : World) : Prop where
  bl : ∀ b ∈ F, ∃ cur e', w.heap[b]? = some (.cells cur e' (0, 0))
  sl : ∀ p ∈ tl, slHolds w (us p.1) e k p.2
  inF : ∀ p ∈ tl, ∀ b, (us p.1).ownBlock = some b → b ∈ F
  kn : (tl.map (·.1)).Nodup
  apart : ∀ p ∈ tl, ∀ q ∈ tl, p.1 ≠ q.1 → ∀ b, (us p.1).ownBlock = some b → (us q.1).ownBlock ≠ some b
  vw : ∀ d ∈ V, At w d.v d.k d.rows
  vb : ∀ d ∈ V, (d.v = .slice none 0 0 ∧ d.rows = []) ∨ ∃ g n c, d.v = .slice (some ⟨g, 0, none⟩) n c ∧ g ∈ F ∧ d.k = k ∧ ∀ p ∈ tl, (us p.1).ownBlock = some g → d.rows <+: p.2
variable {F F' : List Nat} {us : Int → Value} {tl : List (Int × List (List Value))} {V : List Sd}
theorem At.nilv (h : At w (.slice none 0 0) k rows) : At w' (.slice none 0 0) k rows := by
  rcases h.shape with ⟨_, h0⟩ | ⟨a, cap, h0, _⟩
  · subst h0; exact At.nil w' k
  · cases h0
theorem TsH.congr (h : TsH F us e k tl V w) (hb : ∀ b ∈ F, w'.heap[b]? = w.heap[b]?) : TsH F us e k tl V w' := by
  refine ⟨fun b hF => ?_, fun p hp => ?_, h.inF, h.kn, h.apart, fun d hd => ?_, h.vb⟩
  · rw [hb b hF]; exact h.bl b hF
  · exact slHolds_congr (h.sl p hp) fun b hbo => hb b (h.inF p hp b (by simpa using hbo))
  · rcases h.vb d hd with ⟨h1, h2⟩ | ⟨g, n, c, h1, hg, _⟩
    · have := h.vw d hd
      rw [h1] at this ⊢
      exact this.nilv
    · have := h.vw d hd
      rw [h1] at this ⊢
      exact this.block (hb g hg)
def tsRes (F : List Nat) (us : Int → Value) (e : TypeId) (k : Nat) (tl : List (Int × List (List Value))) (V : List Sd) : Res where
  foot := F
  holds := TsH F us e k tl V
  congr := fun h hb => h.congr hb
  lt := fun h b hb => by
    obtain ⟨cur, e', hh⟩ := h.bl b hb
    exact (Array.getElem?_eq_some_iff.1 hh).1
/-- Something that has grown. -/
theorem Cls.anyGrew {z z' : Res} (h : Cls w0 own (.any z :: m) w) (hdr : w.drawn ≤ w'.drawn) (row : Option Nat) (hg : w.grownBy w' row) (hrow : ∀ b, row = some b → b ∈ z.foot) (hf : ∀ b ∈ z'.foot, b ∈ z.foot ∨ w.heap.size ≤ b) (hn : z'.foot.Nodup) (hy : z'.holds w') :
    Cls w0 own (.any z' :: m) w' := by
  have hnd := h.nodup
  rw [List.flatMap_cons, List.nodup_append] at hnd
  obtain ⟨hn1, hn2, hn3⟩ := hnd
  have hz := h.mine (.any z) (List.mem_cons_self ..)
  have hm := h.sublist (List.sublist_cons_self _ _)
  refine ⟨hg.os.trans h.os, hg.tape.trans h.tape, hg.output.trans h.output, h.dr.trans (.of hdr), Nat.le_trans h.size hg.size, fun q hq ho => ?_, ?_, fun x hx => ?_⟩
  · rw [hg.block q (Nat.lt_of_lt_of_le hq h.size), h.old q hq ho]
    intro hv
    rcases hz.2 q (hrow q hv.symm) with h1 | h1
    · omega
    · exact ho h1
  · rw [List.flatMap_cons, List.nodup_append]
    refine ⟨hn, hn2, fun a ha b hb heq => ?_⟩
    subst heq
    rcases hf a ha with h1 | h1
    · exact hn3 a h1 a hb rfl
    · have := hm.foot_lt a hb
      omega
  · rcases List.mem_cons.1 hx with rfl | hx
    · refine ⟨hy, fun b hb => ?_⟩
      rcases hf b hb with h1 | h1
      · exact hz.2 b h1
      · exact .inl (Nat.le_trans h.size h1)
    · have hxm := h.mine x (List.mem_cons_of_mem _ hx)
      refine ⟨As.holds_congr hxm.1 fun b hb => ?_, hxm.2⟩
      refine hg.block b (As.holds_lt hxm.1 b hb) fun heq => ?_
      exact hn3 b (hrow b heq.symm) b (List.mem_flatMap.2 ⟨x, hx, hb⟩) rfl
end
section
variable {P : Program} {v v' : Value} {e : TypeId} {k : Nat} {rows rows' more : List (List Value)} {w : World}
/-- append, and what it leaves as it was. -/
theorem run_append_keep {t ty : TypeId} {i : TypeInfo} {z : Value} {bytes : Nat} (ht : P.underlying t = some (.slice e)) (hi : P.info? e = some i) (hz : i.zero = some z) (hsize : i.size = k) (hby : i.bytes = bytes) (hzs : z.cells.size = k) (hsz : 0 < k)
    (h : slHolds w v e k rows) (a : Addr) (c : Nat) (hmore : ∀ r ∈ more, r.length = k) (hnews : ∀ j u, more.flatten[j]? = some u → w.cell? (a.add j) = some u) (h1 : ∀ u ∈ more.flatten, u.oneCell' = true) (h63 : rows.length + more.length ≤ maxLen) (hbytes : (rows.length + more.length) * bytes ≤ 140737488355328) :
    ∃ v' w', (Builtin.append_ #[t, t] ty #[v, .slice (some a) more.length c]).run P w = .ok v' w' ∧ slHolds w' v' e k (rows ++ more) ∧ w.grownBy w' v.ownBlock ∧ (v'.ownBlock = v.ownBlock ∨ (v'.ownBlock = some w.heap.size ∧ w.grownBy w' none)) := by
  have hl : more.flatten.length = more.length * k := flat_len _ hmore
  have hlr : rows.flatten.length = rows.length * k := flat_len _ h.1
  have hall : ∀ r ∈ rows ++ more, r.length = k := fun r hr => (List.mem_append.1 hr).elim (h.1 r) (hmore r)
  have hlen : (rows ++ more).length = rows.length + more.length := List.length_append
  have hsl : ∀ {w' : World} {v' : Value}, w'.ownsRow 0 e k v' (rows.length + more.length) (rows.flatten ++ more.flatten) → slHolds w' v' e k (rows ++ more) := fun hw' => ⟨hall, by rw [hlen, List.flatten_append]; exact hw'⟩
  obtain ⟨h1r, hown⟩ := h
  by_cases hroom : ∃ g cap cur, v = .slice (some ⟨g, 0, none⟩) rows.length cap ∧ w.heap[g]? = some (.cells cur e (0, 0)) ∧ cap < rows.length + more.length ∧ cap ≤ maxLen
  · obtain ⟨g, cap, cur, rfl, hg, hr, hcm⟩ := hroom
    have holds : ∀ j u, rows.flatten[j]? = some u → w.cell? ((⟨g, 0, none⟩ : Addr).add j) = some u := hown.cells (g := g) rfl
    subst hsize hby
    have hrun := run_append_grow (P := P) w t ty e i z ht hi hz ⟨g, 0, none⟩ rows.length cap rows.flatten hlr holds a more.length c more.flatten hl hnews (by omega) (by simp only [maxLen] at h63; omega) (growslice_fits (by omega) hbytes)
    have hge := grownCap_ge w (rows.length + more.length) cap e
    have hcm2 : grownCap w (rows.length + more.length) cap e ≤ maxLen := grownCap_le_maxLen w (rows.length + more.length) cap e h63
    refine ⟨_, _, hrun, hsl ⟨by simp [hlr, hl, Nat.add_mul], .inr ⟨w.heap.size, _, _, rfl, Nat.zero_le _, heap_alloc_new w.drew _, hge, hcm2, ?_, ?_⟩⟩, ⟨rfl, rfl, rfl, by simp, fun k hk _ => heap_alloc_old w.drew _ hk⟩, .inr ⟨rfl, ⟨rfl, rfl, rfl, by simp, fun k hk _ => heap_alloc_old w.drew _ hk⟩⟩⟩
    · simp only [Array.size_append, List.size_toArray, size_zeroCells, hzs, hlr, hl, ← Nat.add_mul]
      congr 1
      omega
    · simp only [Array.toList_append, List.append_assoc]
      rw [← List.append_assoc, show (rows.length + more.length) * i.size = (rows.flatten ++ more.flatten).length by rw [List.length_append, hlr, hl, Nat.add_mul]]
      exact List.take_left
  · obtain ⟨v', w', g1, g2, g3, _, g5⟩ := run_append_own_at (P := P) w 0 t ty e i z k bytes ht hi hz hsize hby hzs hsz v rows.length rows.flatten hown a more.length c more.flatten hl hnews h1 h63 hbytes (Nat.zero_le _)
    rcases hown.2 with ⟨rfl, h0⟩ | ⟨g, cap, cur, rfl, _, hg, hnc, hcm, hcs, htk⟩
    · refine ⟨v', w', g1, hsl g2, g3, ?_⟩
      rcases g5 with h5 | h5
      · exact .inl h5
      · exact .inr ⟨h5, g3⟩
    · have hle : rows.length + more.length ≤ cap := by
        by_cases c : rows.length + more.length ≤ cap
        · exact c
        · exact absurd ⟨g, cap, cur, rfl, hg, by omega, hcm⟩ hroom
      have hfit : rows.length * i.size + more.flatten.length ≤ cur.size := by subst hsize; rw [hl, hcs, ← Nat.add_mul]; exact Nat.mul_le_mul_right _ hle
      have hr := run_append_room (P := P) w t ty e i ht hi g rows.length cap cur hg a more.length c more.flatten (by rw [hsize]; exact hl) hnews h1 hle hfit
      rw [hr] at g1
      injection g1 with g1a g1b
      exact ⟨v', w', by rw [hr, g1a, g1b], hsl g2, g3, .inl (by rw [← g1a]; rfl)⟩
end
/-! ### The words of the models -/
def fput (f : Int → Value) (a : Int) (v : Value) : Int → Value := fun q => if q = a then v else f q
def bput (f : Int → Nat) (a : Int) (v : Nat) : Int → Nat := fun q => if q = a then v else f q
theorem fput_at (f : Int → Value) (a : Int) (v : Value) : fput f a v a = v := by simp [fput]
theorem fput_ne {f : Int → Value} {a q : Int} {v : Value} (h : q ≠ a) : fput f a v q = f q := by simp [fput, h]
theorem bput_at (f : Int → Nat) (a : Int) (v : Nat) : bput f a v a = v := by simp [bput]
theorem bput_ne {f : Int → Nat} {a q : Int} {v : Nat} (h : q ≠ a) : bput f a v q = f q := by simp [bput, h]
section
variable {α : Type}
/-- Is the key there? -/
def tsKey (ks : List Int) (a : Int) : Option Unit := if a ∈ ks then some () else none
def tsGet (tl : List (Int × List α)) (a : Int) : Option (List α) := (tl.find? fun p => decide (p.1 = a)).map (·.2)
def tsPut (tl : List (Int × List α)) (a : Int) (z : List α) : List (Int × List α) := tl.map fun p => if p.1 = a then (a, z) else p
/-- One key more: the keys, the lists. -/
def tsAdd (ks : List Int) (tl : List (Int × List α)) (a : Int) : Option (List Int × List (Int × List α)) := if a ∈ ks ∨ a ∈ tl.map (·.1) then none else some (ks ++ [a], tl ++ [(a, [])])
def tsRows (row : α → List Value) (tl : List (Int × List α)) : List (Int × List (List Value)) := tl.map fun p => (p.1, p.2.map row)
def tk (ks : List Int) : List (Int × Option Int) := ks.map fun a => (a, some a)
def VT (bs : Int → Nat) : Option Int → Value
  | none => .pointer none
  | some a => pt (bs a) 0
def tsObs (bs : Int → Nat) (us : Int → Value) (e : TypeId) (ks : List Int) : List Ob := ks.map fun q => ⟨bs q, [.int .i64 q, us q], e⟩
theorem tsKey_some {ks : List Int} {a : Int} {x : Unit} (h : tsKey ks a = some x) : a ∈ ks := by
  unfold tsKey at h
  split at h
  · assumption
  · cases h
theorem tsGet_some {tl : List (Int × List α)} {a : Int} {x : List α} (h : tsGet tl a = some x) : (a, x) ∈ tl := by
  unfold tsGet at h
  cases hf : tl.find? (fun p => decide (p.1 = a)) with
  | none => simp [hf] at h
  | some p =>
    simp only [hf, Option.map_some, Option.some.injEq] at h
    have h1 := List.mem_of_find?_eq_some hf
    have h2 : p.1 = a := by simpa using List.find?_some hf
    rw [← h, ← h2]
    exact h1
theorem tsAdd_some {ks : List Int} {tl : List (Int × List α)} {a : Int} {z : List Int × List (Int × List α)} (h : tsAdd ks tl a = some z) : a ∉ ks ∧ a ∉ tl.map (·.1) ∧ z = (ks ++ [a], tl ++ [(a, [])]) := by
  unfold tsAdd at h
  split at h
  · cases h
  · rename_i hc
    simp only [Option.some.injEq] at h
    exact ⟨fun c => hc (.inl c), fun c => hc (.inr c), h.symm⟩
theorem mget_tk (ks : List Int) (a : Int) : mget (tk ks) a none = if a ∈ ks then some a else none := by
  unfold mget tk
  rw [List.find?_map]
  have e1 : ((fun p : Int × Option Int => decide (p.1 = a)) ∘ fun q : Int => (q, some q)) = fun q => decide (q = a) := rfl
  rw [e1]
  cases hf : ks.find? (fun q => decide (q = a)) with
  | none =>
    have := List.find?_eq_none.1 hf
    rw [if_neg fun hm => by simpa using this a hm]
    rfl
  | some q =>
    have h1 := List.mem_of_find?_eq_some hf
    have h2 : q = a := by simpa using List.find?_some hf
    rw [if_pos (h2 ▸ h1), h2]
    rfl
end
section
variable {v v' u : Value} {e e2 : TypeId} {k : Nat} {rows rows' more : List (List Value)} {w0 w w' : World} {own : List Nat} {m : List As} {i b mb : Nat}
variable {F F' : List Nat} {us : Int → Value} {tl : List (Int × List (List Value))} {V : List Sd} {bs : Int → Nat} {ks : List Int} {a : Int} {x : List (List Value)}
theorem keys_inj {β : Type} : ∀ {tl : List (Int × β)}, (tl.map (·.1)).Nodup → ∀ p ∈ tl, ∀ q ∈ tl, p.1 = q.1 → p = q
  | [], _, p, hp, _, _, _ => by cases hp
  | c :: l, hn, p, hp, q, hq, hpq => by
    rw [List.map_cons, List.nodup_cons] at hn
    rcases List.mem_cons.1 hp with rfl | hp' <;> rcases List.mem_cons.1 hq with rfl | hq'
    · rfl
    · exact absurd (List.mem_map.2 ⟨q, hq', hpq.symm⟩) hn.1
    · exact absurd (List.mem_map.2 ⟨p, hp', hpq⟩) hn.1
    · exact keys_inj hn.2 p hp' q hq' hpq
theorem put_keys {β : Type} (tl : List (Int × β)) (a : Int) (z : β) : (tl.map fun p => if p.1 = a then (a, z) else p).map (·.1) = tl.map (·.1) := by
  rw [List.map_map]
  refine List.map_congr_left fun p _ => ?_
  simp only [Function.comp]
  split
  · rename_i h; exact h.symm
  · rfl
theorem slHolds.slice {g : Nat} (h : slHolds w v e k rows) (hb : v.ownBlock = some g) : ∃ c, v = .slice (some ⟨g, 0, none⟩) rows.length c ∧ ∃ cur, w.heap[g]? = some (.cells cur e (0, 0)) := by
  rcases h.2.2 with ⟨rfl, _⟩ | ⟨g', cap, cur, rfl, _, hh, _⟩
  · cases hb
  · simp only [Value.ownBlock, Option.some.injEq] at hb
    subst hb
    exact ⟨cap, rfl, cur, hh⟩
theorem TsH.put (h : TsH F us e k tl V w) (hn : F.Nodup) (hx : (a, x) ∈ tl) (hu : slHolds w' v' e k (x ++ more)) (hg : w.grownBy w' (us a).ownBlock) (hb : v'.ownBlock = (us a).ownBlock ∨ (v'.ownBlock = some w.heap.size ∧ w.grownBy w' none)) :
    ∃ F', F'.Nodup ∧ (∀ b ∈ F', b ∈ F ∨ w.heap.size ≤ b) ∧ TsH F' (fput us a v') e k (tl.map fun p => if p.1 = a then (a, x ++ more) else p) V w' := by
  have hlt : ∀ b ∈ F, b < w.heap.size := fun b hb => by
    obtain ⟨cur, e', hh⟩ := h.bl b hb
    exact (Array.getElem?_eq_some_iff.1 hh).1
  have hold : ∀ p ∈ tl, p.1 ≠ a → slHolds w' (us p.1) e k p.2 := by
    intro p hp hpa
    refine slHolds_congr (h.sl p hp) fun b hbo => ?_
    have hbo' : (us p.1).ownBlock = some b := by simpa using hbo
    exact hg.block b (hlt b (h.inF p hp b hbo')) fun e => h.apart p hp (a, x) hx hpa b hbo' e.symm
  have hkeys : ∀ p ∈ (tl.map fun p => if p.1 = a then (a, x ++ more) else p), (p = (a, x ++ more)) ∨ (p ∈ tl ∧ p.1 ≠ a) := by
    intro p hp
    obtain ⟨q, hq, rfl⟩ := List.mem_map.1 hp
    by_cases c : q.1 = a
    · simp [c]
    · simp [c, hq]
  have hsl : ∀ p ∈ (tl.map fun p => if p.1 = a then (a, x ++ more) else p), slHolds w' (fput us a v' p.1) e k p.2 := by
    intro p hp
    rcases hkeys p hp with rfl | ⟨h1, h2⟩
    · rw [fput_at]; exact hu
    · rw [fput_ne h2]; exact hold p h1 h2
  rcases hb with hb | ⟨hb, hg'⟩
  · refine ⟨F, hn, fun b hb => .inl hb, ⟨fun b hbF => ?_, hsl, fun p hp b hpb => ?_, by rw [put_keys]; exact h.kn, fun p hp q hq hpq b hpb hqb => ?_, fun d hd => ?_, fun d hd => ?_⟩⟩
    · by_cases c : some b = (us a).ownBlock
      · obtain ⟨c', _, cur, hh⟩ := hu.slice (g := b) (by rw [hb, ← c])
        exact ⟨cur, e, hh⟩
      · rw [hg.block b (hlt b hbF) c]; exact h.bl b hbF
    · rcases hkeys p hp with rfl | ⟨h1, h2⟩
      · rw [fput_at, hb] at hpb; exact h.inF (a, x) hx b hpb
      · rw [fput_ne h2] at hpb; exact h.inF p h1 b hpb
    · rcases hkeys p hp with rfl | ⟨h1, h2⟩ <;> rcases hkeys q hq with rfl | ⟨h3, h4⟩
      · exact hpq rfl
      · rw [fput_at, hb] at hpb; rw [fput_ne h4] at hqb; exact h.apart (a, x) hx q h3 hpq b hpb hqb
      · rw [fput_ne h2] at hpb; rw [fput_at, hb] at hqb; exact h.apart p h1 (a, x) hx hpq b hpb hqb
      · rw [fput_ne h2] at hpb; rw [fput_ne h4] at hqb; exact h.apart p h1 q h3 hpq b hpb hqb
    · have hd0 := h.vw d hd
      rcases h.vb d hd with ⟨h1, h2⟩ | ⟨g, n, c, h1, hgF, hdk, hpre⟩
      · rw [h1] at hd0 ⊢; exact hd0.nilv
      · rw [h1] at hd0 ⊢
        by_cases hc : some g = (us a).ownBlock
        · obtain ⟨c', hv', _⟩ := hu.slice (g := g) (by rw [hb, ← hc])
          have h5 := hu.at
          rw [hv'] at h5
          rw [hdk] at hd0 ⊢
          exact h5.prefix hd0 ((hpre (a, x) hx hc.symm).trans (List.prefix_append ..))
        · exact hd0.block (hg.block g (hlt g hgF) hc)
    · rcases h.vb d hd with h1 | ⟨g, n, c, h1, hgF, hdk, hpre⟩
      · exact .inl h1
      · refine .inr ⟨g, n, c, h1, hgF, hdk, fun p hp hpg => ?_⟩
        rcases hkeys p hp with rfl | ⟨h3, h4⟩
        · rw [fput_at, hb] at hpg; exact (hpre (a, x) hx hpg).trans (List.prefix_append ..)
        · rw [fput_ne h4] at hpg; exact hpre p h3 hpg
  · have hnew : w.heap.size ∉ F := fun hc => Nat.lt_irrefl _ (hlt _ hc)
    have hst : ∀ b ∈ F, w'.heap[b]? = w.heap[b]? := fun b hbF => hg'.block b (hlt b hbF) (by simp)
    refine ⟨w.heap.size :: F, List.nodup_cons.2 ⟨hnew, hn⟩, fun b hb => ?_, ⟨fun b hbF => ?_, hsl, fun p hp b hpb => ?_, by rw [put_keys]; exact h.kn, fun p hp q hq hpq b hpb hqb => ?_, fun d hd => ?_, fun d hd => ?_⟩⟩
    · rcases List.mem_cons.1 hb with rfl | hb
      · exact .inr (Nat.le_refl _)
      · exact .inl hb
    · rcases List.mem_cons.1 hbF with rfl | hbF
      · obtain ⟨c', _, cur, hh⟩ := hu.slice hb
        exact ⟨cur, e, hh⟩
      · rw [hst b hbF]; exact h.bl b hbF
    · rcases hkeys p hp with rfl | ⟨h1, h2⟩
      · rw [fput_at, hb] at hpb
        injection hpb with hpb
        exact hpb ▸ List.mem_cons_self
      · rw [fput_ne h2] at hpb; exact List.mem_cons_of_mem _ (h.inF p h1 b hpb)
    · rcases hkeys p hp with rfl | ⟨h1, h2⟩ <;> rcases hkeys q hq with rfl | ⟨h3, h4⟩
      · exact hpq rfl
      · rw [fput_at, hb] at hpb; rw [fput_ne h4] at hqb
        injection hpb with hpb
        exact hnew (hpb ▸ h.inF q h3 b hqb)
      · rw [fput_ne h2] at hpb; rw [fput_at, hb] at hqb
        injection hqb with hqb
        exact hnew (hqb ▸ h.inF p h1 b hpb)
      · rw [fput_ne h2] at hpb; rw [fput_ne h4] at hqb; exact h.apart p h1 q h3 hpq b hpb hqb
    · have hd0 := h.vw d hd
      rcases h.vb d hd with ⟨h1, h2⟩ | ⟨g, n, c, h1, hgF, hdk, hpre⟩
      · rw [h1] at hd0 ⊢; exact hd0.nilv
      · rw [h1] at hd0 ⊢; exact hd0.block (hst g hgF)
    · rcases h.vb d hd with h1 | ⟨g, n, c, h1, hgF, hdk, hpre⟩
      · exact .inl h1
      · refine .inr ⟨g, n, c, h1, List.mem_cons_of_mem _ hgF, hdk, fun p hp hpg => ?_⟩
        rcases hkeys p hp with rfl | ⟨h3, h4⟩
        · rw [fput_at, hb] at hpg
          injection hpg with hpg
          exact absurd (hpg ▸ hgF) hnew
        · rw [fput_ne h4] at hpg; exact hpre p h3 hpg
theorem TsH.add (h : TsH F us e k tl V w) (ha : a ∉ tl.map (·.1)) : TsH F (fput us a nilV) e k (tl ++ [(a, [])]) V w := by
  have hne : ∀ p ∈ tl, p.1 ≠ a := fun p hp c => ha (List.mem_map.2 ⟨p, hp, c⟩)
  have hk : ∀ p ∈ tl ++ [(a, ([] : List (List Value)))], p = (a, []) ∨ p ∈ tl ∧ p.1 ≠ a := by
    intro p hp
    rcases List.mem_append.1 hp with h1 | h1
    · exact .inr ⟨h1, hne p h1⟩
    · exact .inl (by simpa using h1)
  refine ⟨h.bl, fun p hp => ?_, fun p hp b hpb => ?_, ?_, fun p hp q hq hpq b hpb hqb => ?_, h.vw, fun d hd => ?_⟩
  · rcases hk p hp with rfl | ⟨h1, h2⟩
    · rw [fput_at]; exact slHolds_nil w e k
    · rw [fput_ne h2]; exact h.sl p h1
  · rcases hk p hp with rfl | ⟨h1, h2⟩
    · rw [fput_at] at hpb; cases hpb
    · rw [fput_ne h2] at hpb; exact h.inF p h1 b hpb
  · rw [List.map_append, List.map_cons, List.map_nil, List.nodup_append]
    exact ⟨h.kn, by simp, fun x hx y hy hxy => by
      simp only [List.mem_singleton] at hy
      subst hy; subst hxy
      exact ha hx⟩
  · rcases hk p hp with rfl | ⟨h1, h2⟩
    · rw [fput_at] at hpb; cases hpb
    · rcases hk q hq with rfl | ⟨h3, h4⟩
      · rw [fput_at] at hqb; cases hqb
      · rw [fput_ne h2] at hpb; rw [fput_ne h4] at hqb; exact h.apart p h1 q h3 hpq b hpb hqb
  · rcases h.vb d hd with h1 | ⟨g, n, c, h1, hgF, hdk, hpre⟩
    · exact .inl h1
    · refine .inr ⟨g, n, c, h1, hgF, hdk, fun p hp hpg => ?_⟩
      rcases hk p hp with rfl | ⟨h3, h4⟩
      · rw [fput_at] at hpg; cases hpg
      · rw [fput_ne h4] at hpg; exact hpre p h3 hpg
theorem TsH.view (h : TsH F us e k tl V w) (hx : (a, x) ∈ tl) (e' : TypeId) : TsH F us e k tl (V ++ [⟨us a, e', k, x⟩]) w := by
  have hs := h.sl (a, x) hx
  refine ⟨h.bl, h.sl, h.inF, h.kn, h.apart, fun d hd => ?_, fun d hd => ?_⟩
  · rcases List.mem_append.1 hd with h1 | h1
    · exact h.vw d h1
    · simp only [List.mem_singleton] at h1
      subst h1
      exact hs.at
  · rcases List.mem_append.1 hd with h1 | h1
    · exact h.vb d h1
    · simp only [List.mem_singleton] at h1
      subst h1
      cases ho : (us a).ownBlock with
      | none =>
        rcases hs.2.2 with ⟨h2, h3⟩ | ⟨g', cap, cur, h2, _⟩
        · exact .inl ⟨h2, List.length_eq_zero_iff.1 h3⟩
        · simp only at h2
          rw [h2] at ho; cases ho
      | some g =>
        obtain ⟨c, h2, _⟩ := hs.slice ho
        refine .inr ⟨g, _, c, h2, h.inF (a, x) hx g ho, rfl, fun p hp hpg => ?_⟩
        by_cases hpa : p.1 = a
        · rw [keys_inj h.kn p hp (a, x) hx hpa]
          exact List.prefix_refl _
        · exact absurd ho (h.apart p hp (a, x) hx hpa g hpg)
/-- From now on what was given away is only read. -/
theorem Cls.tsFrz0 {c : List Ob} (hw : Cls w0 own (.any (tsRes F us e k tl V) :: .os c :: m) w) : ∃ c', Mo c c' ∧ (∀ K, FzA K c' V) ∧ Cls w0 own (.os c' :: m) w := by
  have hx : TsH F us e k tl V w := (hw.mine (.any (tsRes F us e k tl V)) (by simp)).1
  have ho := (hw.mine (.os c) (by simp)).1
  have key : ∀ F : List Nat, (∀ b ∈ F, ∃ cur e', w.heap[b]? = some (.cells cur e' (0, 0))) → ∃ L : List Ob, L.map Ob.b = F ∧ ∀ o ∈ L, w.heap[o.b]? = some (.cells o.c.toArray o.e (0, 0)) := by
    intro F
    induction F with
    | nil => intro _; exact ⟨[], rfl, fun o ho => by cases ho⟩
    | cons b F ih =>
      intro h
      obtain ⟨L, h1, h2⟩ := ih fun b hb => h b (List.mem_cons_of_mem _ hb)
      obtain ⟨cur, e', hh⟩ := h b List.mem_cons_self
      refine ⟨⟨b, cur.toList, e'⟩ :: L, by simp [h1], fun o ho => ?_⟩
      rcases List.mem_cons.1 ho with rfl | ho
      · exact hh
      · exact h2 o ho
  obtain ⟨L, h1, h2⟩ := key F hx.bl
  refine ⟨L ++ c, Mo.app1, fun K d hd w' _ hc => ?_, ?_⟩
  · have hd0 := hx.vw d hd
    rcases hx.vb d hd with ⟨h3, h4⟩ | ⟨g, n, cc, h3, hgF, _⟩
    · rw [h3] at hd0 ⊢; exact hd0.nilv
    · rw [h3] at hd0 ⊢
      refine hd0.block ?_
      rw [← h1] at hgF
      obtain ⟨o, ho1, rfl⟩ := List.mem_map.1 hgF
      rw [hc o (List.mem_append_left _ ho1), h2 o ho1]
  · refine hw.rePerm ?_ fun z hz => ?_
    · have e1 : (As.os (L ++ c)).foot = F ++ c.map Ob.b := by simp only [As.foot, List.map_append, h1]
      simp only [List.flatMap_cons, e1, List.append_assoc]
      exact List.Perm.refl _
    · rcases List.mem_cons.1 hz with rfl | hz
      · intro o ho'
        rcases List.mem_append.1 ho' with h5 | h5
        · exact h2 o h5
        · exact ho o h5
      · exact (hw.mine z (by simp [hz])).1
theorem Cls.tsFrz {c : List Ob} (hw : Cls w0 own m w) (hi : m[i]? = some (.any (tsRes F us e k tl V))) (hl : m.getLast? = some (.os c)) (hn : Nat.blt (i + 1) m.length = true) :
    ∃ c', Mo c c' ∧ (∀ K, FzA K c' V) ∧ Cls w0 own ((m.eraseIdx i).dropLast ++ [.os c']) w := by
  obtain ⟨c', h1, h2, h3⟩ := (hw.perm (perm_two hi hl hn).1.symm).tsFrz0
  exact ⟨c', h1, h2, h3.perm List.perm_append_comm⟩
theorem Cls.tsNew (hw : Cls w0 own m w) (us : Int → Value) (e : TypeId) (k : Nat) : Cls w0 own (.any (tsRes [] us e k [] []) :: m) w := by
  refine hw.rePerm (by simp [As.foot, tsRes]) fun z hz => ?_
  rcases List.mem_cons.1 hz with rfl | hz
  · exact show TsH [] us e k [] [] w from ⟨(fun b hb => nomatch hb), (fun p hp => nomatch hp), (fun p hp => nomatch hp), by simp, (fun p hp => nomatch hp), (fun d hd => nomatch hd), (fun d hd => nomatch hd)⟩
  · exact (hw.mine z hz).1
theorem Cls.anyTo {z z' : Res} (hw : Cls w0 own m w) (hm : m[i]? = some (.any z)) (hf : z'.foot = z.foot) (hy : z'.holds w) : Cls w0 own (m.set i (.any z')) w :=
  hw.turn hm hf rfl rfl rfl rfl (Nat.le_refl _) (fun _ _ => rfl) hy
end
/-! ### The steps -/
section
variable {P : Program} {Q : Exit → Act → World → Prop} {n : Nat} {fs : Fr} {t : TypeId} {ops : Array Oper} {rest : List Oper} {d : Nat} {pos : String} {af : Array Edge} {C : World → Prop}
variable {w0 : World} {own : List Nat} {m : List As} {xo yo zo' : Operand} {i j q b mb k by' kk : Nat} {v u : Value} {e e2 e3 e' tx ty te kt et : TypeId}
variable {α β ρ : Type} {r : ρ} {row : α → List Value} {F : List Nat} {us : Int → Value} {bs : Int → Nat} {ks : List Int} {tl : List (Int × List α)} {V : List Sd} {a : Int} {x more : List α}
theorem L.tsNew {ll : List Oper} (row : α → List Value) (us : Int → Value) (bs : Int → Nat) (e e2 : TypeId) (k : Nat) (h : L P ops Q n (Cls w0 own (.any (tsRes [] us e k (tsRows row []) []) :: .os (tsObs bs us e2 []) :: m)) ll fs) : L P ops Q n (Cls w0 own m) ll fs :=
  fun ac w hs hw => h ac w hs (hw.os0.tsNew us e k)
theorem Y.eqlVT {o : Option Int} (hu : P.underlying tx = some (.pointer e)) (hx : val fs xo = some (VT bs o)) (hy : val fs yo = some (.pointer none)) : Y P (.binOp .eql tx xo yo ty) t n fs C (.bool o.isNone) := by
  cases o with
  | none => exact Y.eqlP (p := none) hu hx hy
  | some a => exact Y.eqlP (p := some ⟨bs a, 0, none⟩) hu hx hy
theorem tsObs_mem (ha : a ∈ ks) : (⟨bs a, [.int .i64 a, us a], e2⟩ : Ob) ∈ tsObs bs us e2 ks := List.mem_map.2 ⟨a, ha, rfl⟩
theorem tsObs_cell {w : World} (hw : Cls w0 own m w) (hm : m[q]? = some (.os (tsObs bs us e2 ks))) (ha : a ∈ ks) {jj : Nat} {pv : Value} (hp : ([.int .i64 a, us a] : List Value)[jj]? = some pv) : w.cell? ⟨bs a, jj, none⟩ = some pv := by
  obtain ⟨i0, hi⟩ := List.getElem?_of_mem (tsObs_mem (bs := bs) (us := us) (e2 := e2) ha)
  exact hw.obCell hm hi hp
theorem Y.tsLook {q0 : As} (hu : P.underlying tx = some (.map kt et)) (hk : P.underlying kt = some (.int .i64)) (hz : ((P.info? et).bind fun i => i.zero) = some (.pointer none)) (hx : val fs xo = some (.map (some mb))) (hy : val fs yo = some (.int .i64 a)) (hm : m[i]? = some q0) (hq : mpOf q0 = some (mb, mrow (VT bs) (tk ks))) (z : Unit) (h : tsKey ks a = some z) :
    Y P (.lookup tx xo yo false) t n fs (Cls w0 own m) (pt (bs a) 0) := by
  have := Y.lookupM (t := t) (n := n) (w0 := w0) (own := own) (z0 := none) (g := VT bs) hu hk hz hx hy hm hq
  rw [mget_tk, if_pos (tsKey_some h)] at this
  exact this
theorem Y.tsLoad (ha : aggB P te false = true) (hx : val fs xo = some (pt (bs a) (0 + 1))) (hm : m[q]? = some (.os (tsObs bs us e2 ks))) {z : Unit} (h : tsKey ks a = some z) : Y P (.load te xo) t n fs (Cls w0 own m) (us a) :=
  Y.load1 ha hx fun _ hw => tsObs_cell hw hm (tsKey_some h) rfl
theorem Y.tsLoadW (ha : aggB P te true = true) (hs : szB P te 2 = true) (hx : val fs xo = some (pt (bs a) 0)) (hm : m[q]? = some (.os (tsObs bs us e2 ks))) {z : Unit} (h : tsKey ks a = some z) : Y P (.load te xo) t n fs (Cls w0 own m) (.agg #[.int .i64 a, us a]) :=
  Y.loadN (vs := [.int .i64 a, us a]) ha hs hx rfl fun _ hw i u hu => by rw [Addr.add_lit, Nat.zero_add]; exact tsObs_cell hw hm (tsKey_some h) hu
theorem tsAt {w : World} (hw : Cls w0 own m w) (hm : m[i]? = some (.any (tsRes F us e k (tsRows row tl) V))) (h : tsGet tl a = some x) : At w (us a) k (x.map row) := by
  have h1 : TsH F us e k (tsRows row tl) V w := hw.get hm
  exact (h1.sl (a, x.map row) (List.mem_map.2 ⟨(a, x), tsGet_some h, rfl⟩)).at
theorem tsObs_add {vv : Value} (ha : a ∉ ks) : tsObs (bput bs a b) (fput us a vv) e2 (ks ++ [a]) = tsObs bs us e2 ks ++ [⟨b, [.int .i64 a, vv], e2⟩] := by
  unfold tsObs
  rw [List.map_append, List.map_cons, List.map_nil, bput_at, fput_at]
  congr 1
  refine List.map_congr_left fun p hp => ?_
  have : p ≠ a := fun c => ha (c ▸ hp)
  rw [bput_ne this, fput_ne this]
theorem mrow_add (ha : a ∉ ks) : mset (mrow (VT bs) (tk ks)) a (pt b 0) = mrow (VT (bput bs a b)) (tk (ks ++ [a])) := by
  have h1 : mhas (mrow (VT bs) (tk ks)) a = false := by
    rw [mhas_mrow]
    cases hc : mhas (tk ks) a with
    | false => rfl
    | true =>
      obtain ⟨p, hp, hpa⟩ := mhas_iff.1 hc
      obtain ⟨q, hq, rfl⟩ := List.mem_map.1 hp
      exact absurd (hpa ▸ hq) ha
  unfold mset
  rw [h1, if_neg (by simp)]
  unfold mrow tk
  rw [List.map_append, List.map_append, List.map_map, List.map_map]
  congr 1
  · refine List.map_congr_left fun p hp => ?_
    have : p ≠ a := fun c => ha (c ▸ hp)
    simp only [Function.comp, VT, bput_ne this]
  · simp [VT, bput_at]
theorem L.tsAdd {f : List Int → List (Int × List α) → Option ρ} (h : bind2 (tsAdd ks tl a) f = some r) (hu : P.underlying tx = some (.map kt et)) (hk : P.underlying kt = some (.int .i64)) (hx : val fs xo = some (.map (some mb))) (hy : val fs yo = some (.int .i64 a)) (hz : val fs zo' = some (pt b 0))
    (next : ∀ ks' tl' bs' us', tsAdd ks tl a = some (ks', tl') → f ks' tl' = some r → L P ops Q n (Cls w0 own (.mp mb (mrow (VT bs') (tk ks')) :: .os (tsObs bs' us' e2 ks') :: .any (tsRes F us' e k (tsRows row tl') V) :: m)) rest fs) :
    L P ops Q n (Cls w0 own (.obj b [.int .i64 a, .slice none 0 0] e2 :: .mp mb (mrow (VT bs) (tk ks)) :: .os (tsObs bs us e2 ks) :: .any (tsRes F us e k (tsRows row tl) V) :: m)) (⟨none, .mapUpdate tx xo yo zo', t, pos, af, none⟩ :: rest) fs := by
  obtain ⟨ks', tl', hz', h⟩ := bind2S h
  obtain ⟨h1, h2, h3⟩ := tsAdd_some hz'
  simp only [Prod.mk.injEq] at h3
  obtain ⟨rfl, rfl⟩ := h3
  refine L.mapSet0 (i := 1) hu hk hx hy hz rfl ?_
  refine L.to (fun w hw => ?_) (next _ _ (bput bs a b) (fput us a nilV) hz' h)
  rw [mrow_add h1] at hw
  have h5 : Cls w0 own (.os (tsObs bs us e2 ks) :: .obj b [.int .i64 a, .slice none 0 0] e2 :: .mp mb (mrow (VT (bput bs a b)) (tk (ks ++ [a]))) :: .any (tsRes F us e k (tsRows row tl) V) :: m) w := hw.perm (by
    show List.Perm _ (As.obj b [.int .i64 a, .slice none 0 0] e2 :: As.mp mb (mrow (VT (bput bs a b)) (tk (ks ++ [a]))) :: As.os (tsObs bs us e2 ks) :: As.any (tsRes F us e k (tsRows row tl) V) :: m)
    exact (List.Perm.swap ..).trans (List.Perm.cons _ (List.Perm.swap ..)))
  have h6 := h5.osJoin
  rw [← tsObs_add (us := us) (bs := bs) (vv := .slice none 0 0) h1] at h6
  have h7 := h6.perm (List.Perm.swap ..) (m' := .mp mb (mrow (VT (bput bs a b)) (tk (ks ++ [a]))) :: .os (tsObs (bput bs a b) (fput us a nilV) e2 (ks ++ [a])) :: .any (tsRes F us e k (tsRows row tl) V) :: m)
  have h8 : TsH F us e k (tsRows row tl) V w := h7.get (i := 2) rfl
  have h9 := h8.add (a := a) (by unfold tsRows; rw [List.map_map]; exact h2)
  have e1 : tsRows row (tl ++ [(a, [])]) = tsRows row tl ++ [(a, [])] := by simp [tsRows]
  rw [e1]
  exact h7.anyTo (i := 2) (z' := tsRes F (fput us a nilV) e k (tsRows row tl ++ [(a, [])]) V) rfl rfl h9
theorem L.tsApp {f : List α → Option ρ} (h : bind1 (app x more) f = some r) (hgx : tsGet tl a = some x) (hd : Nat.blt d n = true) (hu : P.underlying tx = some (.slice e)) (he : elemB P e k by' = true) (hx : val fs xo = some (us a)) (hy : val fs yo = some u)
    (hm : m[i]? = some (.any (tsRes F us e k (tsRows row tl) V))) (hB : ∀ w, Cls w0 own m w → At w u k (more.map row)) (hp : Plain (more.map row)) (hb : Nat.ble by' 56 = true)
    (next : ∀ v' F' z, app x more = some z → f z = some r → L P ops Q n (Cls w0 own (.any (tsRes F' (fput us a v') e k (tsRows row (tsPut tl a z)) V) :: m.eraseIdx i)) rest ((d, v') :: fs)) :
    L P ops Q n (Cls w0 own m) (⟨some d, .call ⟨.builtin .append, #[xo, yo], #[tx, tx]⟩, t, pos, af, none⟩ :: rest) fs := by
  obtain ⟨z, hz, h⟩ := bind1S h
  obtain ⟨rfl, hl⟩ := app_some hz
  have hb' : by' ≤ 56 := by simpa using hb
  have hl1 : (x.map row).length + (more.map row).length ≤ maxLen := by simp only [List.length_map]; unfold maxLen; omega
  have hl2 : ((x.map row).length + (more.map row).length) * by' ≤ 140737488355328 := by
    simp only [List.length_map]
    calc (x.length + more.length) * by' ≤ 2513169434916 * 56 := Nat.mul_le_mul hl hb'
      _ ≤ _ := by decide
  refine L.runs (R := fun v' w' => ∃ F', Cls w0 own (.any (tsRes F' (fput us a v') e k (tsRows row (tsPut tl a (x ++ more))) V) :: m.eraseIdx i) w') hd (fun ac w hs hw => ?_) (fun v' => ?_)
  · obtain ⟨inf, z0, hi, hz0, hsz, hby, hzs, hk⟩ := elemB_out he
    have hts : TsH F us e k (tsRows row tl) V w := hw.get hm
    have hmem : (a, x.map row) ∈ tsRows row tl := List.mem_map.2 ⟨(a, x), tsGet_some hgx, rfl⟩
    have hown := hts.sl _ hmem
    have hBw := hB w hw
    have key : ∃ v' w', (Builtin.append_ #[tx, tx] t #[us a, u]).run P w = .ok v' w' ∧ slHolds w' v' e k (x.map row ++ more.map row) ∧ w.grownBy w' (us a).ownBlock ∧ (v'.ownBlock = (us a).ownBlock ∨ (v'.ownBlock = some w.heap.size ∧ w.grownBy w' none)) := by
      rcases hBw.shape with ⟨rfl, h0⟩ | ⟨ad, cap, rfl, _, _⟩
      · refine ⟨us a, w, run_append_nil_src 0 tx t e k hu (by simp [szB, hi, hsz]) hown.2, by rw [h0, List.append_nil]; exact hown, ⟨rfl, rfl, rfl, Nat.le_refl _, fun _ _ _ => rfl⟩, .inl rfl⟩
      · exact run_append_keep (P := P) hu hi hz0 hsz hby hzs hk hown ad cap hBw.len (by simpa [adr] using hBw.flat_cell hk)
          (fun u' hu' => by obtain ⟨r, hr, hur⟩ := List.mem_flatten.1 hu'; exact hp r hr u' hur) hl1 hl2
    obtain ⟨v', w', g1, g2, g3, g4⟩ := key
    refine ⟨v', w', ?_, ?_⟩
    · simp only [execOp, resolve, List.map_toArray, List.map_cons, List.map_nil, hs.eval hx, hs.eval hy]
      simp [invoke, builtin, g1]
    · have hn : F.Nodup := foot_nodup hw.nodup (List.mem_of_getElem? hm)
      obtain ⟨F', hn', hF', hts'⟩ := hts.put hn hmem g2 g3 g4
      refine ⟨F', ?_⟩
      have e1 : tsRows row (tsPut tl a (x ++ more)) = (tsRows row tl).map fun p => if p.1 = a then (a, x.map row ++ more.map row) else p := by
        unfold tsRows tsPut
        rw [List.map_map, List.map_map]
        refine List.map_congr_left fun p _ => ?_
        simp only [Function.comp]
        by_cases c : p.1 = a <;> simp [c]
      rw [e1]
      obtain ⟨hil, hie⟩ := List.getElem?_eq_some_iff.1 hm
      have hp2 : m.Perm (.any (tsRes F us e k (tsRows row tl) V) :: m.eraseIdx i) := by
        have := perm_head m i hil
        rwa [hie] at this
      refine (hw.perm hp2.symm).anyGrew (z' := tsRes F' (fput us a v') e k _ V) (run_drawn _ g1) (us a).ownBlock g3 (fun b hb => hts.inF _ hmem b hb) hF' hn' hts'
  · refine L.ex fun F' => ?_
    exact next v' F' _ hz h
theorem tsGet_put {x z : List α} (h : tsGet tl a = some x) : tsGet (tsPut tl a z) a = some z := by
  unfold tsGet tsPut at *
  induction tl with
  | nil => simp at h
  | cons p l ih =>
    rw [List.map_cons]
    by_cases c : p.1 = a
    · simp [c]
    · simp only [List.find?_cons, c, if_false, decide_false] at h ⊢
      exact ih h
theorem L.tsStore {x : List α} {us' : Int → Value} (hs : szB P te 1 = true) (hx : val fs xo = some (pt (bs a) (0 + 1))) (hy : val fs yo = some v) (hm : m[q]? = some (.os (tsObs bs us e2 ks))) (hm2 : m[i]? = some (.any (tsRes F (fput us' a v) e k (tsRows row tl) V))) {z : Unit} (hk : tsKey ks a = some z) (hg : tsGet tl a = some x)
    (next : L P ops Q n (Cls w0 own (m.set q (.os (tsObs bs (fput us a v) e2 ks)))) rest fs) : L P ops Q n (Cls w0 own m) (⟨none, .store te xo yo, t, pos, af, none⟩ :: rest) fs := by
  refine L.runsNone (D := Cls w0 own (m.set q (.os (tsObs bs (fput us a v) e2 ks)))) (fun ac w hs' hw => ?_) next
  have hat := tsAt hw hm2 hg
  rw [fput_at] at hat
  have h1 : v.oneCell' = true := hat.one
  have hu : v.cells = #[v] := At.cells1 hat
  have hmem := tsKey_some hk
  obtain ⟨i0, hi0⟩ := List.getElem?_of_mem hmem
  have h0 : (tsObs bs us e2 ks)[i0]? = some ⟨bs a, [.int .i64 a, us a], e2⟩ := by unfold tsObs; rw [List.getElem?_map, hi0]; rfl
  have hh : (As.os (tsObs bs us e2 ks)).holds w := hw.get hm
  have hb := hh _ (List.mem_of_getElem? h0)
  obtain ⟨w', h2, h3, h4⟩ := run_storeCells (P := P) (bs a) e2 1 [v] 0 [.int .i64 a, us a] w hb (by simp) (by simpa using h1)
  refine ⟨w', ?_, ?_⟩
  · simp only [execOp, hs'.eval hx, hs'.eval hy]
    simp [Instr.storeAt, Instr.sureAddr, pt, storeVar, run_sizeOf hs, hu, h2]
  · have h5 := hw.osPut hm h0 h4 h3
    have hnd : ((tsObs bs us e2 ks).map Ob.b).Nodup := foot_nodup hw.nodup (List.mem_of_getElem? hm)
    have hkn : ks.Nodup := by
      unfold tsObs at hnd
      rw [List.map_map] at hnd
      exact List.Pairwise.of_map _ (fun a b hab => fun c => hab (by rw [c])) hnd
    have e1 : (tsObs bs us e2 ks).set i0 ⟨bs a, over [.int .i64 a, us a] (1 + 0) [v], e2⟩ = tsObs bs (fput us a v) e2 ks := by
      apply List.ext_getElem?
      intro j
      rw [List.getElem?_set]
      unfold tsObs
      simp only [List.getElem?_map, List.length_map]
      by_cases c : i0 = j
      · subst c
        have hlt := (List.getElem?_eq_some_iff.1 hi0).1
        rw [if_pos rfl, if_pos hlt, hi0]
        simp [over, fput_at]
      · rw [if_neg c]
        cases hj : ks[j]? with
        | none => rfl
        | some p =>
          have hpa : p ≠ a := by
            rintro rfl
            obtain ⟨l1, e1⟩ := List.getElem?_eq_some_iff.1 hi0
            obtain ⟨l2, e2⟩ := List.getElem?_eq_some_iff.1 hj
            exact c ((List.getElem_inj (h₀ := l1) (h₁ := l2) hkn).1 (by rw [e1, e2]))
          simp [fput_ne hpa]
    rw [e1] at h5
    exact h5
theorem L.tsOut {f : List β → Option ρ} {rw' : β → List Value → List Value} {sds : β → List Value → List Sd} {gh : Nat → List Value} {l : List β} {y1 : β} (h : bind1 (app l [y1]) f = some r) (hgx : tsGet tl a = some x) (hd : Nat.blt d n = true) (hu : P.underlying tx = some (.slice e3)) (he : elemB P e3 kk by' = true) (hx : val fs xo = some v) (hy : val fs yo = some u)
    (hv : m[i]? = some (.sl v e3 kk (zr rw' gh l))) (hlit : m[j]? = some (.sl u e3 kk [rw' y1 [us a]])) (hm : m[q]? = some (.any (tsRes F us e k (tsRows row tl) (zs sds gh l)))) (hiq : i ≠ q) (hjq : j ≠ q) (hs : sds y1 [us a] = [⟨us a, e', k, x.map row⟩]) (hone : (us a).oneCell' = true → ∀ u ∈ rw' y1 [us a], u.oneCell' = true) (hb : Nat.ble by' 56 = true)
    (next : ∀ v' gh' z, app l [y1] = some z → f z = some r → L P ops Q n (Cls w0 own (.sl v' e3 kk (zr rw' gh' z) :: (m.set q (.any (tsRes F us e k (tsRows row tl) (zs sds gh' z)))).eraseIdx i)) rest ((d, v') :: fs)) :
    L P ops Q n (Cls w0 own m) (⟨some d, .call ⟨.builtin .append, #[xo, yo], #[tx, tx]⟩, t, pos, af, none⟩ :: rest) fs := by
  obtain ⟨z, hz, h⟩ := bind1S h
  obtain ⟨rfl, hl⟩ := app_some hz
  have hb' : by' ≤ 56 := by simpa using hb
  have hz2 := zr_app rw' gh (fun _ => [us a]) l [y1]
  have hs2 := zs_app sds gh (fun _ => [us a]) l [y1]
  have e1 : zr rw' (fun _ => [us a]) [y1] = [rw' y1 [us a]] := rfl
  have e2 : zs sds (fun _ => [us a]) [y1] = [⟨us a, e', k, x.map row⟩] := by simp only [zs, hs, List.append_nil]
  rw [e1] at hz2
  rw [e2] at hs2
  intro ac w hsl hw
  have hts : TsH F us e k (tsRows row tl) (zs sds gh l) w := hw.get hm
  have hmem : (a, x.map row) ∈ tsRows row tl := List.mem_map.2 ⟨(a, x), tsGet_some hgx, rfl⟩
  have h1 := hw.anyTo (z' := tsRes F us e k (tsRows row tl) (zs sds (gapp gh (fun _ => [us a]) l.length) (l ++ [y1]))) hm rfl (by rw [hs2]; exact hts.view hmem e')
  have hoc := ((hts.sl _ hmem).at).one
  refine L.append (i := i) (m := m.set q (.any (tsRes F us e k (tsRows row tl) (zs sds (gapp gh (fun _ => [us a]) l.length) (l ++ [y1]))))) (more := [rw' y1 [us a]]) hd hu he hx hy (by rw [List.getElem?_set_ne hiq.symm]; exact hv) (fun w' hw' => As.at_ (e := e3) (hw'.get (i := j) (by rw [List.getElem?_set_ne hjq.symm]; exact hlit))) ?_ ?_ ?_ (fun v' => ?_) ac w hsl h1
  · exact Plain.one (hone hoc)
  · rw [zr_length]; simp only [List.length_singleton] at *; unfold maxLen; omega
  · rw [zr_length]
    simp only [List.length_singleton] at *
    calc (l.length + 1) * by' ≤ 2513169434916 * 56 := Nat.mul_le_mul hl hb'
      _ ≤ _ := by decide
  · rw [← hz2]
    exact next v' _ _ hz h
theorem L.tsFrz {ll : List Oper} {tl : List (Int × List (List Value))} {c : List Ob} (hi : m[i]? = some (.any (tsRes F us e k tl V))) (hl : m.getLast? = some (.os c)) (hn : Nat.blt (i + 1) m.length = true) (next : ∀ c', Mo c c' → (∀ K, FzA K c' V) → L P ops Q n (Cls w0 own ((m.eraseIdx i).dropLast ++ [.os c'])) ll fs) : L P ops Q n (Cls w0 own m) ll fs := by
  intro ac w hs hw
  obtain ⟨c', h1, h2, h3⟩ := hw.tsFrz hi hl hn
  exact next c' h1 h2 ac w hs h3
end
end Go.S
