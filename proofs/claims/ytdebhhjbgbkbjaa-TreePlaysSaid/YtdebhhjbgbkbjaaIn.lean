/-
  Rows that are owned, written into in their midst: append onto one's own head, copy into a part, a row made longer within its room.
  Conditions: none.
-/
import Derived.Test.YtdebhhjbgbkbjaaDp
import Derived.Lib.Overlaps
import Derived.Lib.AppendZerosOnto
namespace Go.S
set_option linter.unusedVariables false
set_option linter.unusedSimpArgs false
section
variable {P : Program} {Q : Exit → Act → World → Prop} {n : Nat} {C : World → Prop} {fs : Fr} {t : TypeId} {ops : Array Oper} {rest : List Oper} {d : Nat} {pos : String} {af : Array Edge}
variable {w0 w : World} {own : List Nat} {m : List As} {x y : Operand} {e te tx ty : TypeId} {i j k kk by' q s c g cap N a b : Nat} {v u V : Value} {rows more news : List (List Value)}
theorem over_take : ∀ (us c : List Value) (z a : Nat), a + us.length ≤ z → (over c a us).take z = over (c.take z) a us
  | [], _, _, _, _ => rfl
  | p :: us, c, z, a, h => by simp only [List.length_cons] at h; rw [over, over, over_take us _ _ _ (by omega), List.take_set]
/-- Some rows within a row that is owned are written. -/
theorem Cls.setRows (hw : Cls w0 own m w) (hm : m[i]? = some (.sl (.slice (some ⟨g, 0, none⟩) N cap) e k rows)) (ha : a + news.length ≤ rows.length) (hn : ∀ r ∈ news, r.length = k) (hp : Plain news) :
    ∃ w', (storeCells ⟨g, a * k, none⟩ news.flatten 0).run P w = .ok () w' ∧ Cls w0 own (m.set i (.sl (.slice (some ⟨g, 0, none⟩) N cap) e k (rows.take a ++ news ++ rows.drop (a + news.length)))) w' := by
  obtain ⟨hrl, hl, hown⟩ := hw.get hm
  rcases hown with ⟨h0, _⟩ | ⟨g', cap', cur, hv, hg, hh, hnc, hcm, hcs, htake⟩
  · cases h0
  · cases hv
    have hfl : news.flatten.length = news.length * k := flat_len _ hn
    have hcl : cur.toList.length = cap * k := by simp [hcs]
    have hh' : w.heap[g]? = some (.cells cur.toList.toArray e (0, 0)) := by simpa using hh
    have hmul : (a + news.length) * k ≤ rows.length * k := Nat.mul_le_mul_right k ha
    have hmulc : rows.length * k ≤ cap * k := Nat.mul_le_mul_right k hnc
    rw [Nat.add_mul] at hmul
    obtain ⟨w', h2, h3, h4⟩ := run_storeCells (P := P) g e (a * k) news.flatten 0 cur.toList w hh' (by omega) (by
      intro u hu
      obtain ⟨r, hr, hur⟩ := List.mem_flatten.1 hu
      exact hp r hr u hur)
    refine ⟨w', h2, ?_⟩
    have hrl2 : ∀ r ∈ rows.take a ++ news ++ rows.drop (a + news.length), r.length = k := by
      intro r hr
      rcases List.mem_append.1 hr with h | h
      · rcases List.mem_append.1 h with h | h
        · exact hrl r (List.mem_of_mem_take h)
        · exact hn r h
      · exact hrl r (List.mem_of_mem_drop h)
    have hlen2 : (rows.take a ++ news ++ rows.drop (a + news.length)).length = rows.length := by
      simp only [List.length_append, List.length_take, List.length_drop]; omega
    refine hw.turn hm rfl h4.os h4.tape h4.output h4.size (Nat.le_of_eq h4.drawn.symm) (fun p hp => h4.rest p (by simpa [As.foot, Value.ownBlock] using hp)) ⟨hrl2, ?_, .inr ⟨g, cap, (over cur.toList (a * k + 0) news.flatten).toArray, by rw [hlen2], hg, h3, by rw [hlen2]; exact hnc, hcm, by simp [over_length, hcs], ?_⟩⟩
    · rw [flat_len _ hrl2]
    · rw [hlen2, Nat.add_zero, over_take _ _ _ _ (by omega), htake]
      have e1 : rows.flatten = (rows.take a).flatten ++ ((rows.drop a).take news.length).flatten ++ (rows.drop (a + news.length)).flatten := by
        rw [← List.flatten_append, ← List.flatten_append, List.append_assoc, ← List.drop_drop, List.take_append_drop, List.take_append_drop]
      have e2 : (rows.take a).flatten.length = a * k := by rw [flat_len _ (fun r hr => hrl r (List.mem_of_mem_take hr)), List.length_take, Nat.min_eq_left (by omega)]
      have e3 := over_pre news.flatten ((rows.drop a).take news.length).flatten (rows.take a).flatten (rows.drop (a + news.length)).flatten (by
        rw [hfl, flat_len _ (fun r hr => hrl r (List.mem_of_mem_drop (List.mem_of_mem_take hr))), List.length_take, List.length_drop, Nat.min_eq_left (by omega)])
      rw [e2] at e3
      rw [e1, e3, List.flatten_append, List.flatten_append]
theorem run_first {w : World} {c : Nat} (hA : At w u k more) (hk : 0 < k) (hc : c ≤ more.length) : (Builtin.firstCells k c u).run P w = .ok (more.take c).flatten.toArray w := by
  rcases hA.shape with ⟨rfl, rfl⟩ | ⟨ad, cp, rfl, _, _⟩
  · have : c = 0 := by simpa using hc
    subst this
    simp [Builtin.firstCells]
  · have hT := hA.take c hc
    have hfl := hT.flat_cell hk
    have := run_loadCells_list (P := P) w ad (more.take c).flatten (by simpa [cutv, adr] using hfl)
    have hfn : (more.take c).flatten.length = c * k := by
      rw [flat_len _ (fun r hr => hA.len r (List.mem_of_mem_take hr)), List.length_take, Nat.min_eq_left hc]
    rw [hfn] at this
    simp [Builtin.firstCells, this]
theorem run_lenOf {w : World} (hA : At w u k more) : (Builtin.lenOf u).run P w = .ok more.length w := by
  rcases hA.shape with ⟨rfl, rfl⟩ | ⟨ad, c, rfl, _, _⟩ <;> simp [Builtin.lenOf]
/-- append of what stands in a row behind b onto its first a. -/
theorem L.appOver (hd : Nat.blt d n = true) (hu : P.underlying tx = some (.slice e)) (he : elemB P e k by' = true) (hx : val fs x = some (.slice (some ⟨g, 0, none⟩) a cap)) (hy : val fs y = some u) (hm : m[i]? = some (.sl (.slice (some ⟨g, 0, none⟩) N cap) e k rows))
    (hA : ∀ w, Cls w0 own m w → At w u k news) (hlen : a + news.length ≤ rows.length) (hcap : rows.length ≤ cap) (hp : Plain news)
    (next : L P ops Q n (Cls w0 own (m.set i (.sl (.slice (some ⟨g, 0, none⟩) N cap) e k (rows.take a ++ news ++ rows.drop (a + news.length))))) rest ((d, .slice (some ⟨g, 0, none⟩) (a + news.length) cap) :: fs)) :
    L P ops Q n (Cls w0 own m) (⟨some d, .call ⟨.builtin .append, #[x, y], #[tx, tx]⟩, t, pos, af, none⟩ :: rest) fs := by
  refine L.runs (R := fun v' w' => v' = .slice (some ⟨g, 0, none⟩) (a + news.length) cap ∧ Cls w0 own (m.set i (.sl (.slice (some ⟨g, 0, none⟩) N cap) e k (rows.take a ++ news ++ rows.drop (a + news.length)))) w') hd (fun ac w hs hw => ?_) fun v' => ?_
  · obtain ⟨inf, z, hi, hz', hsz, hby, hzs, hk⟩ := elemB_out he
    have hB := hA w hw
    obtain ⟨w', h2, h3⟩ := hw.setRows (P := P) hm hlen hB.len hp
    refine ⟨_, w', ?_, rfl, h3⟩
    have hso : ∀ w, (sizeOf e).run P w = .ok k w := fun w => run_sizeOf (by simp [szB, hi, hsz]) w
    have hf := run_first (P := P) hB hk (Nat.le_refl _)
    rw [List.take_length] at hf
    simp only [execOp, resolve, List.map_toArray, List.map_cons, List.map_nil, hs.eval hx, hs.eval hy]
    have hl0 : ∀ w, (Builtin.lenOf (.slice (some ⟨g, 0, none⟩) a cap)).run P w = .ok a w := fun w => by simp [Builtin.lenOf]
    simp [invoke, builtin, Builtin.append_, run_underlying hu, hso, hl0, run_lenOf hB, hf, Addr.add_lit, h2, show a + news.length ≤ cap by omega]
  · intro a w hs hh
    obtain ⟨rfl, hw⟩ := hh
    exact next a w hs hw
/-- copy into a part of a row. -/
theorem run_copyAt {sT : TypeId} (hu : P.underlying tx = some (.slice e)) (he : elemB P e k by' = true) (hx : val fs x = some (sliced (some ⟨g, 0, none⟩) a N cap k)) (hy : val fs y = some u) (hm : m[i]? = some (.sl (.slice (some ⟨g, 0, none⟩) N cap) e k rows)) (hA : ∀ w, Cls w0 own m w → At w u k more)
    (ha : a < cap) (haN : a ≤ N) (hc : q = min more.length (N - a)) (hp : Plain (more.take q)) (o : Option Tmp) (ac : Act) (w : World) (hs : Slots n fs ac) (hw : Cls w0 own m w) :
    ∃ v' w', (execOp ac.eval ⟨o, .call ⟨.builtin .copy, #[x, y], #[tx, sT]⟩, t, pos, af, none⟩).run P w = .ok (.value v') w' ∧ Cls w0 own (m.set i (.sl (.slice (some ⟨g, 0, none⟩) N cap) e k (rows.take a ++ more.take q ++ rows.drop (a + q)))) w' := by
  obtain ⟨inf, z, hi, hz', hsz, hby, hzs, hk⟩ := elemB_out he
  have hB := hA w hw
  have hN : N = rows.length := by
    rcases (As.at_ (hw.get hm)).shape with ⟨h, _⟩ | ⟨_, _, h, _, _⟩
    · cases h
    · simp only [Value.slice.injEq] at h; exact h.2.1
  have hq : q ≤ more.length := by omega
  have hql : (more.take q).length = q := by rw [List.length_take]; omega
  obtain ⟨w', h2, h3⟩ := hw.setRows (P := P) (a := a) (news := more.take q) hm (by omega) (fun r hr => hB.len r (List.mem_of_mem_take hr)) hp
  rw [hql] at h3
  refine ⟨goInt (q : Int), w', ?_, h3⟩
  have hso : ∀ w, (sizeOf e).run P w = .ok k w := fun w => run_sizeOf (by simp [szB, hi, hsz]) w
  have hf := run_first (P := P) hB hk hq
  have hsl : sliced (some ⟨g, 0, none⟩) a N cap k = .slice (some ⟨g, a * k, none⟩) (N - a) (cap - a) := by
    unfold sliced
    rw [if_neg (by omega)]
    simp [Addr.add_lit]
  simp only [execOp, resolve, List.map_toArray, List.map_cons, List.map_nil, hs.eval hx, hs.eval hy, hsl]
  have hl0 : ∀ w, (Builtin.lenOf (.slice (some ⟨g, a * k, none⟩) (N - a) (cap - a))).run P w = .ok (N - a) w := fun w => by simp [Builtin.lenOf]
  have hmin : more.length.min (N - a) = q := by show min more.length (N - a) = q; omega
  simp [invoke, builtin, Builtin.copy_, run_underlying hu, hso, hl0, run_lenOf hB, hmin, hf, h2]
theorem L.copyAt {sT : TypeId} (hd : Nat.blt d n = true) (hu : P.underlying tx = some (.slice e)) (he : elemB P e k by' = true) (hx : val fs x = some (sliced (some ⟨g, 0, none⟩) a N cap k)) (hy : val fs y = some u) (hm : m[i]? = some (.sl (.slice (some ⟨g, 0, none⟩) N cap) e k rows)) (hA : ∀ w, Cls w0 own m w → At w u k more)
    (ha : a < cap) (haN : a ≤ N) (hc : q = min more.length (N - a)) (hp : Plain (more.take q)) (next : ∀ v', L P ops Q n (Cls w0 own (m.set i (.sl (.slice (some ⟨g, 0, none⟩) N cap) e k (rows.take a ++ more.take q ++ rows.drop (a + q))))) rest ((d, v') :: fs)) :
    L P ops Q n (Cls w0 own m) (⟨some d, .call ⟨.builtin .copy, #[x, y], #[tx, sT]⟩, t, pos, af, none⟩ :: rest) fs :=
  L.runs (R := fun _ w' => Cls w0 own (m.set i (.sl (.slice (some ⟨g, 0, none⟩) N cap) e k (rows.take a ++ more.take q ++ rows.drop (a + q)))) w') hd (fun ac w hs hw => run_copyAt hu he hx hy hm hA ha haN hc hp (some d) ac w hs hw) next
theorem perm_head : ∀ (l : List As) (j : Nat) (h : j < l.length), l.Perm (l[j] :: l.eraseIdx j)
  | [], j, h => by simp at h
  | q :: l, 0, h => List.Perm.refl _
  | q :: l, j + 1, h => by
    simp only [List.getElem_cons_succ, List.eraseIdx_cons_succ]
    exact ((perm_head l j (by simpa using h)).cons q).trans (.swap _ _ _)
theorem eraseIdx_set_self {α : Type} : ∀ (l : List α) (j : Nat) (x : α), (l.set j x).eraseIdx j = l.eraseIdx j
  | [], _, _ => rfl
  | _ :: _, 0, _ => rfl
  | q :: l, j + 1, x => by simp [eraseIdx_set_self l j x]
/-! ### Parts of a row whose value is known -/
abbrev rv (g N cap : Nat) : Value := .slice (some ⟨g, 0, none⟩) N cap
theorem sliced_drop {lo : Nat} (h : lo ≤ N) (h2 : N ≤ cap) : sliced (some ⟨g, 0, none⟩) lo N cap k = dropv (rv g N cap) lo k := by
  unfold sliced dropv
  by_cases c : cap = lo
  · subst c; simp
  · simp [c, show ¬ cap - lo = 0 by omega]
theorem sliced_zero {hi : Nat} : sliced (some ⟨g, 0, none⟩) 0 hi cap k = rv g hi cap := by
  unfold sliced
  by_cases c : cap = 0 <;> simp [c, Addr.add_lit]
theorem Y.capC (hu : P.underlying tx = some (.slice e)) (hx : val fs x = some (rv g N cap)) : Y P (.call ⟨.builtin .cap, #[x], #[tx]⟩) t n fs C (.int .i64 cap) :=
  Y.of fun d pos af g s w hs hw => by
    simp only [execOp, resolve, List.map_toArray, List.map_cons, List.map_nil, hs.eval hx]
    simp [invoke, builtin, run_cap_slice _ _ _ _ _ _ (elemOf_slice hu), goInt]
theorem Y.lenC {ad : Option Addr} (hu : P.underlying tx = some (.slice e)) (hx : val fs x = some (.slice ad N cap)) : Y P (.call ⟨.builtin .len, #[x], #[tx]⟩) t n fs C (.int .i64 N) :=
  Y.of fun d pos af g s w hs hw => by
    simp only [execOp, resolve, List.map_toArray, List.map_cons, List.map_nil, hs.eval hx]
    simp [invoke, builtin, Builtin.len_, run_underlying hu, goInt]
theorem Y.sliceHC {hi : Nat} {ik : IntKind} (hu : P.underlying tx = some (.slice e)) (hs : szB P e k = true) (hx : val fs x = some (rv g N cap)) (hy : val fs y = some (.int ik hi)) (h1 : hi ≤ cap) : Y P (.slice tx x none (some y) none) t n fs C (rv g hi cap) :=
  Y.of fun d pos af q s w hsl hw => by
    have h := run_slice_h (P := P) w tx (some ⟨g, 0, none⟩) N cap (elemOf_slice hu) ik hi (by omega) (by omega)
    rw [elem_slice hu, run_sizeOf hs] at h
    simp only [execOp, hsl.eval hx, hsl.eval hy, Option.map_some, Option.map_none]
    simp only [Result.andThen_ok, sliced_zero] at h
    simp [rv, run_sliceAt_slice w tx _ _ _ _ (elemOf_slice hu), h]
theorem Y.sliceLC {lo : Nat} {ik : IntKind} (hu : P.underlying tx = some (.slice e)) (hs : szB P e k = true) (hx : val fs x = some (rv g N cap)) (hy : val fs y = some (.int ik lo)) (h1 : lo ≤ N) : Y P (.slice tx x (some y) none none) t n fs C (sliced (some ⟨g, 0, none⟩) lo N cap k) :=
  Y.of fun d pos af q s w hsl hw => by
    have h := run_slice_l (P := P) w tx (some ⟨g, 0, none⟩) N cap (elemOf_slice hu) ik lo (by omega) (by omega)
    rw [elem_slice hu, run_sizeOf hs] at h
    simp only [execOp, hsl.eval hx, hsl.eval hy, Option.map_some, Option.map_none]
    simp only [Result.andThen_ok] at h
    simp [rv, run_sliceAt_slice w tx _ _ _ _ (elemOf_slice hu), h]
theorem Y.sliceLHC {lo hi : Nat} {z : Operand} {ik ik2 : IntKind} (hu : P.underlying tx = some (.slice e)) (hs : szB P e k = true) (hx : val fs x = some (rv g N cap)) (hy : val fs y = some (.int ik lo)) (hz : val fs z = some (.int ik2 hi)) (h1 : lo ≤ hi) (h2 : hi ≤ cap) : Y P (.slice tx x (some y) (some z) none) t n fs C (sliced (some ⟨g, 0, none⟩) lo hi cap k) :=
  Y.of fun d pos af q s w hsl hw => by
    have h := run_slice_lh (P := P) w tx (some ⟨g, 0, none⟩) N cap (elemOf_slice hu) ik ik2 lo hi (by omega) (by omega) (by omega)
    rw [elem_slice hu, run_sizeOf hs] at h
    simp only [execOp, hsl.eval hx, hsl.eval hy, hsl.eval hz, Option.map_some, Option.map_none]
    simp only [Result.andThen_ok] at h
    simp [rv, run_sliceAt_slice w tx _ _ _ _ (elemOf_slice hu), h]
theorem Y.slice3C {lo hi mx : Nat} {z z2 : Operand} {ik ik2 ik3 : IntKind} (hu : P.underlying tx = some (.slice e)) (hs : szB P e k = true) (hx : val fs x = some (rv g N cap)) (hy : val fs y = some (.int ik lo)) (hz : val fs z = some (.int ik2 hi)) (hz2 : val fs z2 = some (.int ik3 mx)) (h1 : lo ≤ hi) (h2 : hi ≤ mx) (h3 : mx ≤ cap) :
    Y P (.slice tx x (some y) (some z) (some z2)) t n fs C (sliced (some ⟨g, 0, none⟩) lo hi mx k) :=
  Y.of fun d pos af q s w hsl hw => by
    have h := run_slice_lhm (P := P) w tx (some ⟨g, 0, none⟩) N cap (elemOf_slice hu) ik ik2 ik3 lo hi mx (by omega) (by omega) (by omega) (by omega)
    rw [elem_slice hu, run_sizeOf hs] at h
    simp only [execOp, hsl.eval hx, hsl.eval hy, hsl.eval hz, hsl.eval hz2, Option.map_some]
    simp only [Result.andThen_ok] at h
    simp [rv, run_sliceAt_slice w tx _ _ _ _ (elemOf_slice hu), h]
/-- The value of a row that is not empty. -/
theorem Cls.row (hw : Cls w0 own m w) (hm : m[i]? = some (.sl v e k rows)) (h0 : rows ≠ []) : ∃ g cap, v = rv g rows.length cap ∧ rows.length ≤ cap ∧ cap ≤ maxLen := by
  obtain ⟨_, _, hown⟩ := hw.get hm
  rcases hown with ⟨_, h⟩ | ⟨g, cap, cur, hv, _, _, hnc, hcm, _, _⟩
  · exact absurd (List.length_eq_zero_iff.1 h) h0
  · exact ⟨g, cap, hv, hnc, hcm⟩
theorem chunks (k : Nat) : ∀ (cnt : Nat) (L : List Value), L.length = cnt * k → ∃ ex : List (List Value), ex.length = cnt ∧ (∀ r ∈ ex, r.length = k) ∧ ex.flatten = L
  | 0, L, h => ⟨[], rfl, by simp, by
    have : L = [] := List.eq_nil_of_length_eq_zero (by omega)
    simp [this]⟩
  | cnt + 1, L, h => by
    rw [Nat.succ_mul] at h
    obtain ⟨ex, h1, h2, h3⟩ := chunks k cnt (L.drop k) (by rw [List.length_drop]; omega)
    refine ⟨L.take k :: ex, by simp [h1], fun r hr => ?_, by simp [h3]⟩
    rcases List.mem_cons.1 hr with rfl | hr
    · rw [List.length_take]; omega
    · exact h2 r hr
/-- A row made longer, within its room. -/
theorem Cls.extend (hw : Cls w0 own m w) (hm : m[i]? = some (.sl (rv g N cap) e k rows)) {N' : Nat} (h1 : N ≤ N') (h2 : N' ≤ cap) : ∃ ex : List (List Value), ex.length = N' - N ∧ Cls w0 own (m.set i (.sl (rv g N' cap) e k (rows ++ ex))) w := by
  have hh0 := hw.get hm
  obtain ⟨hrl, hl, hown⟩ := hh0
  rcases hown with ⟨h, _⟩ | ⟨g', cap', cur, hv, hg, hh, hnc, hcm, hcs, htk⟩
  · cases h
  · have hN : N = rows.length := by simp only [Value.slice.injEq] at hv; exact hv.2.1
    cases hv
    have hm1 : N' * k ≤ cap * k := Nat.mul_le_mul_right k h2
    have hm2 : N' * k = rows.length * k + (N' - rows.length) * k := by rw [← Nat.add_mul]; congr 1; omega
    have hcl : cur.toList.length = cap * k := by simpa using hcs
    obtain ⟨ex, e1, e2, e3⟩ := chunks k (N' - rows.length) ((cur.toList.drop (rows.length * k)).take ((N' - rows.length) * k)) (by
      rw [List.length_take, List.length_drop, hcl]; omega)
    refine ⟨ex, by rw [e1], ?_⟩
    have hlen : (rows ++ ex).length = N' := by rw [List.length_append, e1]; omega
    have hrl2 : ∀ r ∈ rows ++ ex, r.length = k := fun r hr => (List.mem_append.1 hr).elim (hrl r) (e2 r)
    refine hw.turn hm rfl rfl rfl rfl rfl (Nat.le_refl _) (fun _ _ => rfl) ⟨hrl2, by rw [flat_len _ hrl2], .inr ⟨g, cap, cur, by rw [hlen], hg, hh, by rw [hlen]; exact h2, hcm, hcs, ?_⟩⟩
    rw [hlen, List.flatten_append, e3, ← htk, hm2, List.take_add]
/-- .. and shorter. -/
theorem Cls.shrink (hw : Cls w0 own m w) (hm : m[i]? = some (.sl (rv g N cap) e k rows)) {N' : Nat} (h1 : N' ≤ rows.length) : Cls w0 own (m.set i (.sl (rv g N' cap) e k (rows.take N'))) w := by
  have hh0 := hw.get hm
  obtain ⟨hrl, hl, hown⟩ := hh0
  rcases hown with ⟨h, _⟩ | ⟨g', cap', cur, hv, hg, hh, hnc, hcm, hcs, htk⟩
  · cases h
  · cases hv
    have hrl2 : ∀ r ∈ rows.take N', r.length = k := fun r hr => hrl r (List.mem_of_mem_take hr)
    have hlen : (rows.take N').length = N' := by rw [List.length_take]; omega
    have hmm : N' * k ≤ rows.length * k := Nat.mul_le_mul_right k h1
    refine hw.turn hm rfl rfl rfl rfl rfl (Nat.le_refl _) (fun _ _ => rfl) ⟨hrl2, by rw [flat_len _ hrl2], .inr ⟨g, cap, cur, by rw [hlen], hg, hh, by rw [hlen]; omega, hcm, hcs, ?_⟩⟩
    have e1 : rows.flatten = (rows.take N').flatten ++ (rows.drop N').flatten := by rw [← List.flatten_append, List.take_append_drop]
    have e2 : (rows.take N').flatten.length = N' * k := by rw [flat_len _ hrl2, hlen]
    have e3 : (cur.toList.take (rows.length * k)).take (N' * k) = rows.flatten.take (N' * k) := by rw [htk]
    rw [List.take_take, Nat.min_eq_left hmm, e1, List.take_left' e2] at e3
    rw [hlen, e3]
/-- A new row: some rows, and zeros behind them. -/
theorem Cls.zrow (hw : Cls w0 own m w) {inf : TypeInfo} {z : Value} {zc : List Value} {cnt G : Nat} (hzs : z.cells.size = k) (hzc : z.cells.toList = zc) (hk : 0 < k) (hr : ∀ r ∈ rows, r.length = k) (hG : rows.length + cnt ≤ G) (hGm : G ≤ maxLen) :
    Cls w0 own (.sl (rv w.heap.size (rows.length + cnt) G) e k (rows ++ List.replicate cnt zc) :: m) (w.drew.alloc (.cells (rows.flatten.toArray ++ Builtin.zeroCells z.cells cnt ++ Builtin.zeroCells z.cells (G - (rows.length + cnt))) e)) := by
  have hwd : Cls w0 own m w.drew := hw.drew
  have h1 := hwd.alloc (rows.flatten.toArray ++ Builtin.zeroCells z.cells cnt ++ Builtin.zeroCells z.cells (G - (rows.length + cnt))).toList e
  simp only [Array.toArray_toList] at h1
  have hz : ∀ q, (Builtin.zeroCells z.cells q).toList = (List.replicate q zc).flatten := by
    intro q
    have hrows := madeRows z.cells q k hzs hk
    unfold Builtin.zeroCells
    rw [hzs] at hrows ⊢
    rw [hzc] at hrows
    exact hrows
  have hzl : zc.length = k := by rw [← hzc]; simpa using hzs
  have hrep : ∀ r ∈ rows ++ List.replicate cnt zc, r.length = k := by
    intro r hr'
    rcases List.mem_append.1 hr' with h | h
    · exact hr r h
    · rw [List.mem_replicate] at h; rw [h.2, hzl]
  have hll : (rows ++ List.replicate cnt zc).length = rows.length + cnt := by simp
  have hzsz : ∀ q, (Builtin.zeroCells z.cells q).size = q * k := fun q => by rw [size_zeroCells, hzs]
  have hfl : rows.flatten.length = rows.length * k := flat_len _ hr
  refine ⟨h1.os, h1.tape, h1.output, h1.dr, h1.size, h1.old, h1.nodup, fun q hq => ?_⟩
  rcases List.mem_cons.1 hq with rfl | hq
  · have hmine := h1.mine _ (List.mem_cons_self)
    refine ⟨⟨hrep, by rw [flat_len _ hrep], .inr ⟨w.heap.size, G, _, by rw [hll], Nat.zero_le _, by have := hmine.1; simpa [As.holds] using this, by rw [hll]; exact hG, hGm, ?_, ?_⟩⟩, fun b hb => hmine.2 b hb⟩
    · have h2 : rows.length * k + cnt * k + (G - (rows.length + cnt)) * k = G * k := by
        rw [← Nat.add_mul, ← Nat.add_mul]
        congr 1
        omega
      simp only [Array.size_append, List.size_toArray, List.length_append, Array.length_toList, hzsz, hfl]
      omega
    · rw [hll]
      simp only [Array.toList_append, hz]
      rw [List.flatten_append]
      have e2 : (rows.flatten ++ (List.replicate cnt zc).flatten).length = (rows.length + cnt) * k := by
        rw [← List.flatten_append, flat_len _ hrep, hll]
      rw [← List.append_assoc, List.take_left' e2]
  · exact h1.mine q (List.mem_cons_of_mem _ hq)
theorem L.appFreshZ {tn : TypeId} {kn ik : IntKind} {zc : List Value} {cnt : Nat} (hd : Nat.blt d n = true) (hu : P.underlying tx = some (.slice e)) (htn : P.underlying tn = some (.int kn)) (he : elemB P e k by' = true) (hz : zeroB P e = some zc) (hx : val fs x = some (rv g a cap)) (hy : val fs y = some (.int ik cnt)) (hm : m[i]? = some (.sl (rv g N cap) e k rows))
    (hn : 0 < cnt) (hg : cap < a + cnt) (hl : a + cnt ≤ maxLen) (hb : (a + cnt) * by' ≤ 140737488355328) (ha : a ≤ rows.length)
    (next : ∀ g' cap', a + cnt ≤ cap' → L P ops Q n (Cls w0 own (.sl (rv g' (a + cnt) cap') e k (rows.take a ++ List.replicate cnt zc) :: m)) rest ((d, rv g' (a + cnt) cap') :: fs)) :
    L P ops Q n (Cls w0 own m) (⟨some d, .call ⟨.builtin .append, #[x, y], #[tx, tn]⟩, t, pos, af, none⟩ :: rest) fs := by
  refine L.runs (R := fun v' w' => ∃ g' cap', v' = rv g' (a + cnt) cap' ∧ a + cnt ≤ cap' ∧ Cls w0 own (.sl (rv g' (a + cnt) cap') e k (rows.take a ++ List.replicate cnt zc) :: m) w') hd (fun ac w hs hw => ?_) fun v' => ?_
  · obtain ⟨inf, z, hi, hz', hsz, hby, hzs, hk⟩ := elemB_out he
    have hzz : z.cells.toList = zc := by
      unfold zeroB at hz
      simpa [hi, hz'] using hz
    have hwd : Cls w0 own m w.drew := hw.drew
    have hS := (hwd.shrink hm ha).get (i := i) (by rw [List.getElem?_set_self (List.getElem?_eq_some_iff.1 hm).1])
    have hB0 : At w.drew (rv g a cap) k (rows.take a) := As.at_ hS
    have hlo : (rows.take a).length = a := by rw [List.length_take]; omega
    have hf := run_first (P := P) hB0 hk (Nat.le_refl _)
    rw [List.take_length, hlo] at hf
    have hr := Lib.run_append_grow_zeros (P := P) w tx tn t e inf z ik kn hu htn hi hz' (some ⟨g, 0, none⟩) a cap (rows.take a).flatten (by rw [hsz]; exact hf) cnt hn (by omega) hg (by simp only [maxLen] at hl; omega)
      (by rw [hby]; have : cnt * by' ≤ (a + cnt) * by' := Nat.mul_le_mul_right _ (by omega); omega) (by rw [hby]; exact growslice_fits hg hb)
    have hge := grownCap_ge w (a + cnt) cap e
    have hcm := grownCap_le_maxLen w (a + cnt) cap e hl
    refine ⟨rv w.heap.size (a + cnt) (grownCap w (a + cnt) cap e), w.drew.alloc (.cells ((rows.take a).flatten.toArray ++ Builtin.zeroCells z.cells cnt ++ Builtin.zeroCells z.cells (grownCap w (a + cnt) cap e - (a + cnt))) e), ?_, w.heap.size, grownCap w (a + cnt) cap e, rfl, hge, ?_⟩
    · simp only [execOp, resolve, List.map_toArray, List.map_cons, List.map_nil, hs.eval hx, hs.eval hy]
      simp [invoke, builtin, hr]
    · have := hw.zrow (inf := inf) (e := e) (rows := rows.take a) hzs hzz hk hB0.len (cnt := cnt) (G := grownCap w (a + cnt) cap e) (by rw [hlo]; exact hge) hcm
      rw [hlo] at this
      exact this
  · intro ac w hs hh
    obtain ⟨g', cap', rfl, h1, hw⟩ := hh
    exact next g' cap' h1 ac w hs hw
/-- The row that stands at the head turned, all else as it was. -/
theorem Cls.frame {v' : Value} {rows' : List (List Value)} {w' : World} (hw : Cls w0 own m w) (hm : m[i]? = some (.sl (rv g N cap) e k rows)) (h : Cls w [g] [.sl v' e k rows'] w') : Cls w0 own (m.set i (.sl v' e k rows')) w' := by
  have hil := (List.getElem?_eq_some_iff.1 hm).1
  have hgm := hw.mine _ (List.mem_of_getElem? hm)
  have hg1 : w0.heap.size ≤ g ∨ g ∈ own := hgm.2 g (by simp [As.foot, Value.ownBlock])
  have hgl : g < w.heap.size := hw.foot_lt g (List.mem_flatMap.2 ⟨_, List.mem_of_getElem? hm, by simp [As.foot, Value.ownBlock]⟩)
  have hp : m.Perm (.sl (rv g N cap) e k rows :: m.eraseIdx i) := by
    have hx := (List.getElem?_eq_some_iff.1 hm).2
    have := perm_head m i hil
    rwa [hx] at this
  have hp2 : (m.set i (.sl v' e k rows')).Perm (.sl v' e k rows' :: m.eraseIdx i) := by
    have := perm_head (m.set i (.sl v' e k rows')) i (by simpa using hil)
    rwa [List.getElem_set_self, eraseIdx_set_self] at this
  have hw1 := hw.perm hp.symm
  refine Cls.perm ?_ hp2
  have hnd := hw1.nodup
  rw [List.flatMap_cons, List.nodup_append] at hnd
  have hne : ∀ b ∈ (m.eraseIdx i).flatMap As.foot, b < w.heap.size ∧ b ≠ g := fun b hb => by
    refine ⟨hw1.foot_lt b (by rw [List.flatMap_cons]; exact List.mem_append_right _ hb), fun hbg => ?_⟩
    exact hnd.2.2 g (by simp [As.foot, Value.ownBlock]) b hb hbg.symm
  refine ⟨h.os.trans hw.os, h.tape.trans hw.tape, h.output.trans hw.output, DR.trans hw.dr h.dr, Nat.le_trans hw.size h.size, fun q hq ho => ?_, ?_, fun x hx => ?_⟩
  · rw [h.old q (Nat.lt_of_lt_of_le hq hw.size) (by
      simp only [List.mem_singleton]
      rintro rfl
      rcases hg1 with h1 | h1
      · omega
      · exact ho h1), hw.old q hq ho]
  · rw [List.flatMap_cons, List.nodup_append]
    refine ⟨by have := h.nodup; simpa using this, hnd.2.1, fun a ha b hb hab => ?_⟩
    subst hab
    rcases (h.mine _ (List.mem_singleton.2 rfl)).2 a ha with h1 | h1
    · have := (hne a hb).1; omega
    · exact (hne a hb).2 (by simpa using h1)
  · rcases List.mem_cons.1 hx with rfl | hx
    · refine ⟨(h.mine _ (List.mem_singleton.2 rfl)).1, fun b hb => ?_⟩
      rcases (h.mine _ (List.mem_singleton.2 rfl)).2 b hb with h1 | h1
      · exact .inl (Nat.le_trans hw.size h1)
      · have : b = g := by simpa using h1
        rw [this]; exact hg1
    · refine ⟨As.holds_congr (hw1.mine x (List.mem_cons_of_mem _ hx)).1 fun b hb => ?_, (hw1.mine x (List.mem_cons_of_mem _ hx)).2⟩
      have hb' := hne b (List.mem_flatMap.2 ⟨x, hx, hb⟩)
      exact h.old b hb'.1 (by simpa using hb'.2)
theorem At.sliced {w : World} (h : At w (rv g N cap) k rows) {lo : Nat} (hl : lo ≤ N) : At w (sliced (some ⟨g, 0, none⟩) lo N cap k) k (rows.drop lo) := by
  rcases h.shape with ⟨h0, _⟩ | ⟨_, _, h1, h2, _⟩
  · cases h0
  · simp only [Value.slice.injEq] at h1
    rw [sliced_drop hl (by omega)]
    exact h.drop lo (by omega)
theorem L.extend {N' : Nat} {ll : List Oper} (hm : m[i]? = some (.sl (rv g N cap) e k rows)) (h1 : N ≤ N') (h2 : N' ≤ cap) (next : ∀ ex : List (List Value), ex.length = N' - N → L P ops Q n (Cls w0 own (m.set i (.sl (rv g N' cap) e k (rows ++ ex)))) ll fs) : L P ops Q n (Cls w0 own m) ll fs :=
  fun ac w hs hw => by
    obtain ⟨ex, h3, h4⟩ := hw.extend hm h1 h2
    exact next ex h3 ac w hs h4
theorem Y.addN {p r : Nat} (hx : val fs x = some (.int .i64 p)) (hy : val fs y = some (.int .i64 r)) (h : p + r ≤ 9223372036854775807) : Y P (.binOp .add tx x y ty) t n fs C (.int .i64 ((p + r : Nat) : Int)) :=
  Y.addM hx hy _ (by rw [i64_ok (by omega) (by omega)]; rfl)
theorem Y.subN {p r : Nat} (hx : val fs x = some (.int .i64 p)) (hy : val fs y = some (.int .i64 r)) (h : r ≤ p) (h2 : p ≤ 9223372036854775807) : Y P (.binOp .sub tx x y ty) t n fs C (.int .i64 ((p - r : Nat) : Int)) :=
  Y.subM hx hy _ (by rw [i64_ok (by omega) (by omega)]; congr 1; omega)
theorem Y.callVal {f : FuncId} {xs : List Operand} {ts : Array TypeId} {vs : List Value} (hx : vals fs xs = some vs) (hc : ∀ w, C w → (callFunc f vs.toArray).run P w = .ok (.value v) w) : Y P (.call ⟨.value (.func f), xs.toArray, ts⟩) t n fs C v :=
  Y.of fun d pos af g a w hs hw => by
    have h1 := hs.evals hx
    simp only [execOp, resolve, List.map_toArray, h1]
    simp [Act.eval, Deferred.ofValue, invoke, hc w hw]
end
end Go.S
