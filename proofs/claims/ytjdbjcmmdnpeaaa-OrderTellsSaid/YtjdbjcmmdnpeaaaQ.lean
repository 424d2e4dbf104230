/-
  Operations on arrays whose elements hold slices.
  Conditions: none.
-/
import Derived.Test.YtjdbjcmmdnpeaaaG
namespace Go.S
set_option linter.unusedVariables false
set_option linter.unusedSimpArgs false
def svRow {α : Type} (x : α) (vs : List Value) : List Value := [gv vs 0]
def svSd {α : Type} (e : TypeId) (k : Nat) (row : α → List Value) (x : List α) (vs : List Value) : List Sd := [⟨gv vs 0, e, k, x.map row⟩]
/-- A slice's elements from a place on, made zero. -/
def clr {α : Type} (l : List α) (a : Int) (z : α) : Option (List α) := if 0 ≤ a ∧ a ≤ l.length then some (l.take a.toNat ++ List.replicate (l.length - a.toNat) z) else none
theorem clr_some {α : Type} {l l' : List α} {a : Int} {z : α} (h : clr l a z = some l') : 0 ≤ a ∧ a ≤ l.length ∧ l' = l.take a.toNat ++ List.replicate (l.length - a.toNat) z := by
  unfold clr at h
  split at h
  · rename_i h1
    simp only [Option.some.injEq] at h
    exact ⟨h1.1, h1.2, h.symm⟩
  · cases h
theorem flat_len {k : Nat} : ∀ (rows : List (List Value)), (∀ r ∈ rows, r.length = k) → rows.flatten.length = rows.length * k
  | [], _ => by simp
  | r :: rows, h => by
    simp only [List.flatten_cons, List.length_append, List.length_cons, Nat.succ_mul]
    rw [flat_len rows (fun q hq => h q (by simp [hq])), h r (by simp)]
    omega
theorem gall0 : ∀ d ∈ ([] : List Sd), d.v = .slice none 0 0 ∧ d.rows = [] := by simp
theorem gall1 {d : Sd} {l : List Sd} (h1 : d.v = .slice none 0 0) (h2 : d.rows = []) (h : ∀ d ∈ l, d.v = .slice none 0 0 ∧ d.rows = []) : ∀ d' ∈ d :: l, d'.v = .slice none 0 0 ∧ d'.rows = [] := List.forall_mem_cons.2 ⟨⟨h1, h2⟩, h⟩
section
variable {P : Program} {Q : Exit → Act → World → Prop} {n : Nat} {fs : Fr} {t : TypeId} {ops : Array Oper} {rest : List Oper} {d : Nat} {pos : String} {af : Array Edge}
variable {w0 : World} {own : List Nat} {m : List As} {x y : Operand} {e te tx : TypeId} {q s p o i j k kk b c by' : Nat} {v u : Value} {vals : List Value}
theorem L.runsNoneV {op : Op} {C D : World → Prop}
    (hr : ∀ a w, Slots n fs a → C w → ∃ v w', (execOp a.eval ⟨none, op, t, pos, af, none⟩).run P w = .ok (.value v) w' ∧ D w')
    (k : L P ops Q n D rest fs) : L P ops Q n C (⟨none, op, t, pos, af, none⟩ :: rest) fs := by
  intro a w hs hw
  obtain ⟨v, w', h, hv⟩ := hr a w hs hw
  simp only [wpList, Region.wanted, if_true]
  refine .inl ?_
  unfold Oper.wp
  rw [h]
  exact k _ w' hs hv
theorem L.clear {rows : List (List Value)} {a : Nat} {zc : List Value} (hu : P.underlying tx = some (.slice e)) (he : elemB P e k by' = true) (hz : zeroB P e = some zc) (h1 : ∀ u ∈ zc, u.oneCell' = true) (hx : val fs x = some (dropv v a k)) (hm : m[i]? = some (.sl v e k rows)) (ha : a ≤ rows.length)
    (next : L P ops Q n (Cls w0 own (m.set i (.sl v e k (rows.take a ++ List.replicate (rows.length - a) zc)))) rest fs) :
    L P ops Q n (Cls w0 own m) (⟨none, .call ⟨.builtin .clear, #[x], #[tx]⟩, t, pos, af, none⟩ :: rest) fs := by
  exact L.runsNoneV (fun ac w hsl hw => by
    obtain ⟨hrl, hl, hown⟩ := hw.get hm
    obtain ⟨inf, z, hi, hz', hsz, hby, hzs, hk⟩ := elemB_out he
    have hzz : z.cells.toList = zc := by
      unfold zeroB at hz
      simpa [hi, hz'] using hz
    have hzl : zc.length = k := by rw [← hzz]; simp [hzs]
    have hnoop : ∀ (hd0 : rows.length - a = 0), Cls w0 own (m.set i (.sl v e k (rows.take a ++ List.replicate (rows.length - a) zc))) w := by
      intro h0
      rw [h0, List.replicate_zero, List.append_nil, List.take_of_length_le (by omega)]
      have : m.set i (.sl v e k rows) = m := by
        obtain ⟨h2, h3⟩ := List.getElem?_eq_some_iff.1 hm
        rw [← h3, List.set_getElem_self]
      rw [this]; exact hw
    rcases hown with ⟨rfl, hn⟩ | ⟨g, cap, cur, rfl, hg, hh, hnc, hcm, hcs, htake⟩
    · have : rows = [] := List.length_eq_zero_iff.1 hn
      subst this
      refine ⟨.tuple #[], w, ?_, hnoop (by simp)⟩
      simp only [execOp, resolve, List.map_toArray, List.map_cons, List.map_nil, hsl.eval hx, dropv]
      simp [invoke, builtin, Builtin.clear_, run_underlying hu]
    · by_cases h0 : rows.length - a = 0
      · refine ⟨.tuple #[], w, ?_, hnoop h0⟩
        simp only [execOp, resolve, List.map_toArray, List.map_cons, List.map_nil, hsl.eval hx, dropv, h0]
        cases (if cap - a = 0 then some (⟨g, 0, none⟩ : Addr) else (some (⟨g, 0, none⟩ : Addr)).map (·.add (a * k))) <;> simp [invoke, builtin, Builtin.clear_, run_underlying hu]
      · have hcl : cur.toList.length = cap * k := by simp [hcs]
        have hh' : w.heap[g]? = some (.cells cur.toList.toArray e (0, 0)) := by simpa using hh
        have hrows := madeRows z.cells (rows.length - a) k hzs hk
        rw [hzz] at hrows
        have hzcs : (Builtin.zeroCells z.cells (rows.length - a)).toList = (List.replicate (rows.length - a) zc).flatten := by
          unfold Builtin.zeroCells
          rw [hzs]
          rw [hzs] at hrows
          exact hrows
        have hrep : ∀ r ∈ List.replicate (rows.length - a) zc, r.length = k := by
          intro r hr; rw [List.mem_replicate] at hr; rw [hr.2, hzl]
        have hfl : (List.replicate (rows.length - a) zc).flatten.length = (rows.length - a) * k := by rw [flat_len _ hrep, List.length_replicate]
        have hmul : a * k + (rows.length - a) * k = rows.length * k := by rw [← Nat.add_mul]; congr 1; omega
        have hmulc : rows.length * k ≤ cap * k := Nat.mul_le_mul_right k hnc
        obtain ⟨w', h2, h3, h4⟩ := run_storeCells (P := P) g e (a * k) (List.replicate (rows.length - a) zc).flatten 0 cur.toList w hh' (by omega) (by
          intro u hu'
          obtain ⟨r, hr, hur⟩ := List.mem_flatten.1 hu'
          rw [List.mem_replicate] at hr
          rw [hr.2] at hur
          exact h1 u hur)
        refine ⟨.tuple #[], w', ?_, ?_⟩
        · have hca : ¬ (cap - a = 0) := by omega
          simp only [execOp, resolve, List.map_toArray, List.map_cons, List.map_nil, hsl.eval hx, dropv]
          rw [if_neg hca]
          obtain ⟨q, hq⟩ : ∃ q, rows.length - a = q + 1 := ⟨rows.length - a - 1, by omega⟩
          have hzv : ∀ w, (zeroValue e).run P w = .ok z w := fun w => by simp [zeroValue, typeInfo, hi, hz']
          rw [← hzcs, hq] at h2
          rw [hq]
          simp [invoke, builtin, Builtin.clear_, run_underlying hu, hzv, Addr.add_lit, h2]
        · have htk : ∀ (us : List Value) (c : List Value) (z a : Nat), a + us.length ≤ z → (over c a us).take z = over (c.take z) a us := by
            intro us
            induction us with
            | nil => intro c z a _; rfl
            | cons p us ih => intro c z a h; simp only [List.length_cons] at h; rw [over, over, ih _ _ _ (by omega), List.take_set]
          have hrl2 : ∀ r ∈ rows.take a ++ List.replicate (rows.length - a) zc, r.length = k := by
            intro r hr
            rcases List.mem_append.1 hr with h | h
            · exact hrl r (List.mem_of_mem_take h)
            · exact hrep r h
          have hlen2 : (rows.take a ++ List.replicate (rows.length - a) zc).length = rows.length := by simp; omega
          refine hw.turn hm rfl h4.os h4.tape h4.output h4.size (Nat.le_of_eq h4.drawn.symm) (fun p hp => h4.rest p (by simpa [As.foot, Value.ownBlock] using hp)) ⟨hrl2, ?_, .inr ⟨g, cap, (over cur.toList (a * k + 0) (List.replicate (rows.length - a) zc).flatten).toArray, by rw [hlen2], hg, h3, by rw [hlen2]; exact hnc, hcm, by simp [over_length, hcs], ?_⟩⟩
          · rw [flat_len _ hrl2]
          · rw [hlen2, Nat.add_zero]
            rw [htk _ _ _ _ (by rw [hfl]; omega), htake]
            have e1 : rows.flatten = (rows.take a).flatten ++ (rows.drop a).flatten := by rw [← List.flatten_append, List.take_append_drop]
            have e2 : (rows.take a).flatten.length = a * k := by rw [flat_len _ (fun r hr => hrl r (List.mem_of_mem_take hr)), List.length_take, Nat.min_eq_left ha]
            have e3 := over_all (List.replicate (rows.length - a) zc).flatten (rows.drop a).flatten (rows.take a).flatten (by rw [hfl, flat_len _ (fun r hr => hrl r (List.mem_of_mem_drop hr)), List.length_drop])
            rw [e2] at e3
            rw [e1, e3, List.flatten_append]) next

section ghost
variable {α ρ : Type} {r : ρ} {row : α → List Value → List Value} {sds : α → List Value → List Sd} {vs : Nat → List Value} {l : List α} {a : Int} {u0 u1 : α} {f : List α → Option ρ}
theorem L.clearM {g : α → List Value} {z0 : α} (h : bind1 (clr l a z0) f = some r) (hu : P.underlying tx = some (.slice e)) (he : elemB P e k by' = true) (hz : zeroB P e = some (g z0)) (h1 : ∀ u ∈ g z0, u.oneCell' = true) (hx : val fs x = some (dropv v a.toNat k)) (hm : m[i]? = some (.sl v e k (l.map g)))
    (next : ∀ z, clr l a z0 = some z → f z = some r → L P ops Q n (Cls w0 own (m.set i (.sl v e k (z.map g)))) rest fs) :
    L P ops Q n (Cls w0 own m) (⟨none, .call ⟨.builtin .clear, #[x], #[tx]⟩, t, pos, af, none⟩ :: rest) fs := by
  obtain ⟨z, hz', h⟩ := bind1S h
  obtain ⟨h2, h3, rfl⟩ := clr_some hz'
  refine L.clear hu he hz h1 hx hm (by rw [List.length_map]; omega) ?_
  have := next _ hz' h
  rwa [List.map_append, List.map_take, List.map_replicate, ← List.length_map (f := g) (as := l)] at this
theorem L.ssNew {cs : List Value} {xs : List α} (hc : cs = (zr row vs xs).flatten) (hn : ∀ d ∈ zs sds vs xs, d.v = .slice none 0 0 ∧ d.rows = []) (next : L P ops Q n (Cls w0 own (.obj b (zr row vs xs).flatten e :: .ss (zs sds vs xs) :: m)) rest fs) : L P ops Q n (Cls w0 own (.obj b cs e :: m)) rest fs := by
  subst hc
  exact L.to (fun w hw => (hw.ssNew hn).perm (List.Perm.swap ..)) next
theorem zr_flat (hlen : ∀ z v, (row z v).length = k) (hr : idx l a = some u0) {pv : Value} (hp : (row u0 (vs a.toNat))[j]? = some pv) : (zr row vs l).flatten[0 + a.toNat * k + j]? = some pv := by
  rw [Nat.zero_add]
  exact flatten_get _ _ _ _ _ (zr_all hlen vs l) (zr_get row vs l _ _ (idx_some hr).2.2) hp
theorem Y.loadZ (ha : aggB P te false = true) (hx : val fs x = some (pt b o)) (ho : o = 0 + a.toNat * k + j) (hm : m[q]? = some (.obj b (zr row vs l).flatten e)) (hlen : ∀ z v, (row z v).length = k) (hr : idx l a = some u0) {pv : Value} (hp : (row u0 (vs a.toNat))[j]? = some pv) :
    Y P (.load te x) t n fs (Cls w0 own m) pv := by
  subst ho
  exact Y.loadP ha hx hm (zr_flat hlen hr hp)
theorem Y.loadZN (ha : aggB P te true = true) (hs : szB P te kk = true) (hx : val fs x = some (pt b o)) (ho : o = 0 + a.toNat * k + j) (hm : m[q]? = some (.obj b (zr row vs l).flatten e)) (hlen : ∀ z v, (row z v).length = k) (hr : idx l a = some u0) (hk : vals.length = kk)
    (hp : ∀ i pv, vals[i]? = some pv → (row u0 (vs a.toNat))[j + i]? = some pv) : Y P (.load te x) t n fs (Cls w0 own m) (.agg vals.toArray) := by
  subst ho
  exact Y.loadPN ha hs hx hm hk fun i pv hi => by
    rw [Nat.add_assoc]
    exact zr_flat hlen hr (hp i pv hi)
theorem sds_lt (hc : ∀ z v, (sds z v).length = c) {dd : Sd} {z : α} {v : List Value} (hj : (sds z v)[j]? = some dd) : j < c := by
  have := (List.getElem?_eq_some_iff.1 hj).1
  rwa [hc] at this
theorem As.atZ {w : World} (h : (As.ss (zs sds vs l)).holds w) (hc : ∀ z v, (sds z v).length = c) (hr : idx l a = some u0) {rows : List (List Value)} (hj : (sds u0 (vs a.toNat))[j]? = some ⟨v, e, k, rows⟩) : At w v k rows := by
  have h1 := zs_get hc vs l a.toNat j u0 (idx_some hr).2.2 (sds_lt hc hj)
  rw [hj] at h1
  exact As.at_ (e := e) (h _ (List.mem_of_getElem? h1))
theorem L.ssOut (hs : m[s]? = some (.ss (zs sds vs l))) (hc : ∀ z v, (sds z v).length = c) (hr : idx l a = some u0) {rows : List (List Value)} (hj : (sds u0 (vs a.toNat))[j]? = some ⟨v, e, k, rows⟩)
    (next : L P ops Q n (Cls w0 own (.sl v e k rows :: m.set s (.ss ((zs sds vs l).set (a.toNat * c + j) (Sd.nil 0 0))))) rest fs) : L P ops Q n (Cls w0 own m) rest fs :=
  L.to (fun w hw => hw.ssOut hs (by rw [zs_get hc vs l a.toNat j u0 (idx_some hr).2.2 (sds_lt hc hj)]; exact hj) 0 0) next
theorem over_zr (hlen : ∀ z v, (row z v).length = k) (hr : idx l a = some u0) {v1 : List Value} (hj : j + vals.length ≤ k) (hrow : over (row u0 (vs a.toNat)) j vals = row u1 v1) : over (zr row vs l).flatten (0 + a.toNat * k + j) vals = (zr row (gset vs a.toNat v1) (l.set a.toNat u1)).flatten := by
  have hi := idx_some hr
  rw [Nat.zero_add, over_flat vals _ a.toNat j _ (zr_all hlen vs l) (zr_get row vs l _ _ hi.2.2) hj, hrow, zr_set row vs l a.toNat u1 v1 (by omega)]
theorem zr_len (hlen : ∀ z v, (row z v).length = k) : (zr row vs l).flatten.length = l.length * k := by rw [flat_len _ (zr_all hlen vs l), zr_length]
/-- A store of plain cells. -/
theorem L.storeZ (h : bind1 (upd l a u1) f = some r) (hs : szB P te kk = true) (hx : val fs x = some (pt b o)) (ho : o = 0 + a.toNat * k + j) (hy : val fs y = some u) (hu : u.cells.toList = vals) (hk : vals.length = kk) (h1 : ∀ u ∈ vals, u.oneCell' = true)
    (hm : m[q]? = some (.obj b (zr row vs l).flatten e)) (hms : m[s]? = some (.ss (zs sds vs l))) (hlen : ∀ z v, (row z v).length = k) (hr : idx l a = some u0) (hj : Nat.ble (j + kk) k = true) (hrow : over (row u0 (vs a.toNat)) j vals = row u1 (vs a.toNat))
    (hc : ∀ z v, (sds z v).length = c) (hsd : sds u1 (vs a.toNat) = sds u0 (vs a.toNat)) (next : ∀ z, z = l.set a.toNat u1 → f z = some r → L P ops Q n (Cls w0 own ((m.set q (.obj b (zr row vs z).flatten e)).set s (.ss (zs sds vs z)))) rest fs) :
    L P ops Q n (Cls w0 own m) (⟨none, .store te x y, t, pos, af, none⟩ :: rest) fs := by
  subst ho
  have hi := idx_some hr
  have hj' : j + kk ≤ k := by simpa using hj
  have hib : (a.toNat + 1) * k ≤ l.length * k := Nat.mul_le_mul_right k (by omega)
  rw [Nat.succ_mul] at hib
  have hz : zs sds vs (l.set a.toNat u1) = zs sds vs l := by
    by_cases h0 : 0 < c
    · have h2 := zs_set hc vs l a.toNat 0 u0 u1 (vs a.toNat) ((sds u0 (vs a.toNat))[0]'(by rw [hc]; exact h0)) hi.2.2 h0 (by rw [hsd, List.set_getElem_self])
      rw [gset_same] at h2
      have h3 := zs_get hc vs l a.toNat 0 u0 hi.2.2 h0
      rw [List.getElem?_eq_getElem (l := sds u0 (vs a.toNat)) (by rw [hc]; exact h0)] at h3
      obtain ⟨h4, h5⟩ := List.getElem?_eq_some_iff.1 h3
      rw [h2, ← h5, List.set_getElem_self]
    · have h6 : ∀ (vs : Nat → List Value) (xs : List α), zs sds vs xs = [] := by
        intro vs xs
        induction xs generalizing vs with
        | nil => rfl
        | cons y ys ih =>
          rw [zs, ih, List.append_nil]
          exact List.eq_nil_of_length_eq_zero (by rw [hc]; omega)
      rw [h6, h6]
  refine L.store hs hx hy hu hk h1 hm (by rw [zr_len hlen]; omega) ?_
  rw [over_zr hlen hr (by omega) hrow, gset_same]
  have hn := next _ rfl (upd_bind h rfl)
  have he2 : (m.set q (.obj b (zr row vs (l.set a.toNat u1)).flatten e)).set s (.ss (zs sds vs (l.set a.toNat u1))) = m.set q (.obj b (zr row vs (l.set a.toNat u1)).flatten e) := by
    rw [hz]
    have hne : q ≠ s := by
      rintro rfl
      rw [hm] at hms
      cases hms
    have h7 : (m.set q (.obj b (zr row vs (l.set a.toNat u1)).flatten e))[s]? = some (.ss (zs sds vs l)) := by rw [List.getElem?_set_ne hne]; exact hms
    obtain ⟨h8, h9⟩ := List.getElem?_eq_some_iff.1 h7
    rw [← h9, List.set_getElem_self]
  rwa [he2] at hn
/-- A store of a slice that is owned. -/
theorem L.storeZS (h : bind1 (upd l a u1) f = some r) (hs : szB P te 1 = true) (hx : val fs x = some (pt b o)) (ho : o = 0 + a.toNat * k + j) (hy : val fs y = some v) {e' : TypeId} {k' jj : Nat} {rows : List (List Value)} {L0 : List Sd} {v1 : List Value}
    (hm : m[q]? = some (.obj b (zr row vs l).flatten e)) (hp : m[p]? = some (.sl v e' k' rows)) (hms : m[s]? = some (.ss L0)) (hL : L0 = zs sds vs l ∨ L0 = (zs sds vs l).set (a.toNat * c + jj) (Sd.nil 0 0)) (hlen : ∀ z v, (row z v).length = k) (hc : ∀ z v, (sds z v).length = c) (hr : idx l a = some u0) (hj : Nat.ble (j + 1) k = true)
    (hrow : over (row u0 (vs a.toNat)) j [v] = row u1 v1) (hjj : Nat.blt jj c = true) (hsd : sds u1 v1 = (sds u0 (vs a.toNat)).set jj ⟨v, e', k', rows⟩)
    (next : ∀ z vs', z = l.set a.toNat u1 → f z = some r → L P ops Q n (Cls w0 own (((m.set q (.obj b (zr row vs' z).flatten e)).set s (.ss (zs sds vs' z))).eraseIdx p)) rest fs) :
    L P ops Q n (Cls w0 own m) (⟨none, .store te x y, t, pos, af, none⟩ :: rest) fs := by
  subst ho
  have hi := idx_some hr
  have hj' : j + 1 ≤ k := by simpa using hj
  have hjj' : jj < c := by simpa [Nat.blt_eq] using hjj
  have hib : (a.toNat + 1) * k ≤ l.length * k := Nat.mul_le_mul_right k (by omega)
  rw [Nat.succ_mul] at hib
  refine L.storeV hs hx hy (fun w hw => (As.at_ (hw.get hp)).one) hm (by rw [zr_len hlen]; omega) ?_
  rw [over_zr hlen hr hj' hrow]
  refine L.to (fun w hw => ?_) (next _ (gset vs a.toNat v1) rfl (upd_bind h rfl))
  have hqs : q ≠ s := by rintro rfl; rw [hm] at hms; cases hms
  have hqp : q ≠ p := by rintro rfl; rw [hm] at hp; cases hp
  have hps : p ≠ s := by rintro rfl; rw [hp] at hms; cases hms
  have hzs := zs_set hc vs l a.toNat jj u0 u1 v1 _ hi.2.2 hjj' hsd
  have hlt : a.toNat * c + jj < (zs sds vs l).length := by
    have h3 := zs_get hc vs l a.toNat jj u0 hi.2.2 hjj'
    rw [List.getElem?_eq_getElem (l := sds u0 (vs a.toNat)) (by rw [hc]; exact hjj')] at h3
    exact (List.getElem?_eq_some_iff.1 h3).1
  have hp2 : (m.set q (.obj b (zr row (gset vs a.toNat v1) (l.set a.toNat u1)).flatten e))[p]? = some (.sl v e' k' rows) := by rw [List.getElem?_set_ne hqp]; exact hp
  have hs2 : (m.set q (.obj b (zr row (gset vs a.toNat v1) (l.set a.toNat u1)).flatten e))[s]? = some (.ss L0) := by rw [List.getElem?_set_ne hqs]; exact hms
  rw [hzs]
  rcases hL with rfl | rfl
  · -- what was there is left behind
    have h3 : ∃ d, (zs sds vs l)[a.toNat * c + jj]? = some d := ⟨_, List.getElem?_eq_getElem hlt⟩
    obtain ⟨d0, h3⟩ := h3
    have h4 := foot_set_sub h3 (nilfoot 0 0)
    have h5 := hw.ssLess hs2 (l' := (zs sds vs l).set (a.toNat * c + jj) (Sd.nil 0 0)) (fun b hb => h4.mem_iff.1 (List.mem_append_right _ hb)) (fun hnd => (List.nodup_append.1 (h4.nodup_iff.2 hnd)).2.1) (fun hh d hd => by
      rcases List.mem_or_eq_of_mem_set hd with h6 | rfl
      · exact hh d h6
      · exact slHolds_nil w 0 0)
    have h6 := h5.ssIn (p := p) (s := s) (i := a.toNat * c + jj) (e' := 0) (k' := 0) (by rw [List.getElem?_set_ne (Ne.symm hps)]; exact hp2) (by rw [List.getElem?_set_self (by
      have := (List.getElem?_eq_some_iff.1 hs2).1
      exact this)]) hps hlt
    rwa [List.set_set] at h6
  · exact hw.ssIn hp2 hs2 hps hlt
/-- A store of a whole element without slices. -/
theorem L.storeZA (h : bind1 (upd l a u1) f = some r) (hs : szB P te kk = true) (hx : val fs x = some (pt b o)) (ho : o = 0 + a.toNat * k + j) (hy : val fs y = some u) (hu : u.cells.toList = vals) (hk : vals.length = kk) (h1 : ∀ u ∈ vals, u.oneCell' = true) {v1 : List Value}
    (hm : m[q]? = some (.obj b (zr row vs l).flatten e)) (hms : m[s]? = some (.ss (zs sds vs l))) (hlen : ∀ z v, (row z v).length = k) (hr : idx l a = some u0) (hj : Nat.ble (j + kk) k = true) (hrow : over (row u0 (vs a.toNat)) j vals = row u1 v1)
    (hsd : ∀ d ∈ sds u1 v1, d.v = .slice none 0 0 ∧ d.rows = []) (next : ∀ z vs', z = l.set a.toNat u1 → f z = some r → L P ops Q n (Cls w0 own ((m.set q (.obj b (zr row vs' z).flatten e)).set s (.ss (zs sds vs' z)))) rest fs) :
    L P ops Q n (Cls w0 own m) (⟨none, .store te x y, t, pos, af, none⟩ :: rest) fs := by
  subst ho
  have hi := idx_some hr
  have hj' : j + kk ≤ k := by simpa using hj
  have hib : (a.toNat + 1) * k ≤ l.length * k := Nat.mul_le_mul_right k (by omega)
  rw [Nat.succ_mul] at hib
  refine L.store hs hx hy hu hk h1 hm (by rw [zr_len hlen]; omega) ?_
  rw [over_zr hlen hr (by omega) hrow]
  refine L.to (fun w hw => ?_) (next _ (gset vs a.toNat v1) rfl (upd_bind h rfl))
  have hqs : q ≠ s := by rintro rfl; rw [hm] at hms; cases hms
  have hs2 : (m.set q (.obj b (zr row (gset vs a.toNat v1) (l.set a.toNat u1)).flatten e))[s]? = some (.ss (zs sds vs l)) := by rw [List.getElem?_set_ne hqs]; exact hms
  have key : ∀ (vs : Nat → List Value) (l : List α) (i : Nat), l[i]? = some u0 → (∀ b ∈ (zs sds (gset vs i v1) (l.set i u1)).flatMap Sd.foot, b ∈ (zs sds vs l).flatMap Sd.foot) ∧ (((zs sds vs l).flatMap Sd.foot).Nodup → ((zs sds (gset vs i v1) (l.set i u1)).flatMap Sd.foot).Nodup) := by
    have hf : (sds u1 v1).flatMap Sd.foot = [] := by
      rw [List.flatMap_eq_nil_iff]
      intro d hd
      unfold Sd.foot
      rw [(hsd d hd).1]; rfl
    intro vs l
    induction l generalizing vs with
    | nil => intro i h; simp at h
    | cons y ys ih =>
      intro i h
      cases i with
      | zero =>
        simp only [List.set_cons_zero, zs, gset_0, gset_0s, List.flatMap_append, hf, List.nil_append]
        exact ⟨fun b hb => List.mem_append_right _ hb, fun hnd => (List.nodup_append.1 hnd).2.1⟩
      | succ i =>
        simp only [List.getElem?_cons_succ] at h
        obtain ⟨g1, g2⟩ := ih (fun q => vs (q + 1)) i h
        simp only [List.set_cons_succ, zs, gset_s0, gset_ss, List.flatMap_append]
        refine ⟨fun b hb => ?_, fun hnd => ?_⟩
        · rcases List.mem_append.1 hb with h1 | h1
          · exact List.mem_append_left _ h1
          · exact List.mem_append_right _ (g1 b h1)
        · rw [List.nodup_append] at hnd
          exact List.nodup_append.2 ⟨hnd.1, g2 hnd.2.1, fun a ha b hb => hnd.2.2 a ha b (g1 b hb)⟩
  obtain ⟨g1, g2⟩ := key vs l a.toNat hi.2.2
  refine hw.ssLess hs2 g1 g2 (fun hh d hd => ?_)
  rcases zs_mem vs l a.toNat u0 u1 v1 hi.2.2 d hd with h6 | h6
  · obtain ⟨h7, h8⟩ := hsd d h6
    rw [h7, h8]
    exact slHolds_nil w _ _
  · exact hh d h6
end ghost
end
/-! ### '==' of arrays -/
section
variable {P : Program} {Q : Exit → Act → World → Prop} {n : Nat} {C : World → Prop} {fs : Fr} {t : TypeId} {ops : Array Oper} {rest : List Oper} {d : Nat} {pos : String} {af : Array Edge} {x y : Operand} {tx ty : TypeId}
variable {α : Type} {row : α → List Value} {l l' : List α} {k m : Nat} {e : TypeId}
theorem flat_inj (hr : ∀ z, (row z).length = k) (hin : ∀ a b, row a = row b → a = b) : ∀ (l l' : List α), l.length = l'.length → (l.map row).flatten = (l'.map row).flatten → l = l'
  | [], [], _, _ => rfl
  | a :: l, b :: l', h1, h2 => by
    simp only [List.map_cons, List.flatten_cons] at h2
    obtain ⟨h3, h4⟩ := List.append_inj h2 (by rw [hr, hr])
    rw [hin a b h3, flat_inj hr hin l l' (by simpa using h1) h4]
theorem Y.eqlAr [DecidableEq α] (hg : P.eqGuardType P.depth tx = false) (ha : aggB P tx true = true) (hu : P.underlying tx = some (.array k e)) (hi : (P.info? e).isSome = true) (hr : ∀ z, (row z).length = P.cellsOf e) (hs : ∀ z, shB P 4 e (row z) = true) (hin : ∀ a b, row a = row b → a = b) (hl : l.length = k) (hl' : l'.length = k)
    (hx : val fs x = some (.agg (l.map row).flatten.toArray)) (hy : val fs y = some (.agg (l'.map row).flatten.toArray)) : Y P (.binOp .eql tx x y ty) t n fs C (.bool (decide (l = l'))) :=
  Y.eqlA (row := fun l : List α => (l.map row).flatten) hg ha (shB_array hu hi hr hs hl) (shB_array hu hi hr hs hl') (fun h => flat_inj hr hin l l' (hl.trans hl'.symm) h) hx hy
theorem Y.neqAr [DecidableEq α] (hg : P.eqGuardType P.depth tx = false) (ha : aggB P tx true = true) (hu : P.underlying tx = some (.array k e)) (hi : (P.info? e).isSome = true) (hr : ∀ z, (row z).length = P.cellsOf e) (hs : ∀ z, shB P 4 e (row z) = true) (hin : ∀ a b, row a = row b → a = b) (hl : l.length = k) (hl' : l'.length = k)
    (hx : val fs x = some (.agg (l.map row).flatten.toArray)) (hy : val fs y = some (.agg (l'.map row).flatten.toArray)) : Y P (.binOp .neq tx x y ty) t n fs C (.bool (decide (l ≠ l'))) :=
  Y.neqA (row := fun l : List α => (l.map row).flatten) hg ha (shB_array hu hi hr hs hl) (shB_array hu hi hr hs hl') (fun h => flat_inj hr hin l l' (hl.trans hl'.symm) h) hx hy
end
end Go.S
