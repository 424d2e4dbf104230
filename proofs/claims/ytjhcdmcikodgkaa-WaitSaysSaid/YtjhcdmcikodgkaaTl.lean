/-
  Slices that begin within their block: cut at the front, and appended to.
  Conditions: none.
-/
import Derived.Test.YtjhcdmcikodgkaaFp
namespace Go.S
set_option linter.unusedVariables false
set_option linter.unusedSimpArgs false
section
variable {v v' : Value} {e : TypeId} {k : Nat} {rows rows' more : List (List Value)} {w0 w w' : World} {own : List Nat} {m : List As} {i : Nat}
theorem tlHolds.at (h : tlHolds w v e k rows) : At w v k rows := by
  obtain ⟨h1, h3⟩ := h
  refine ⟨?_, h1, fun i r j x hr hx => ?_⟩
  · rcases h3 with ⟨rfl, h0⟩ | ⟨g, off, cap, cur, rfl, _, hn, hc, _⟩
    · exact .inl ⟨rfl, h0⟩
    · exact .inr ⟨_, cap, rfl, hn, hc⟩
  · have hf := flatten_get rows i j r x h1 hr hx
    rcases h3 with ⟨rfl, h0⟩ | ⟨g, off, cap, cur, rfl, hg, hn, hc, hs, ht⟩
    · subst h0
      simp at hr
    · have hj : i * k + j < rows.length * k := by
        have := (List.getElem?_eq_some_iff.1 hf).1
        rw [flat_len _ h1] at this
        exact this
      rw [← ht, List.getElem?_take_of_lt hj, List.getElem?_drop] at hf
      show (World.cell? w (Addr.add ⟨g, off, none⟩ (i * k + j))) = some x
      rw [Addr.add_lit]
      simp only [World.cell?, hg, Option.isSome_none, Bool.false_eq_true, if_false]
      rw [Array.getElem?_toList] at hf
      exact hf
theorem As.atTl (h : (As.tl v e k rows).holds w) : At w v k rows := tlHolds.at h
theorem tl_of_own {n : Nat} (h1 : ∀ r ∈ rows, r.length = k) (hn : n = rows.length) (h : w.ownsRow 0 e k v n rows.flatten) : tlHolds w v e k rows := by
  subst hn
  refine ⟨h1, ?_⟩
  rcases h.2 with ⟨rfl, h0⟩ | ⟨g, cap, cur, rfl, _, hg, hn, hc, hs, ht⟩
  · exact .inl ⟨rfl, List.length_eq_zero_iff.1 h0⟩
  · exact .inr ⟨g, 0, cap, cur, rfl, hg, hn, hc, by omega, by simpa using ht⟩
theorem Cls.slTl (h : Cls w0 own m w) (hm : m[i]? = some (.sl v e k rows)) : Cls w0 own (m.set i (.tl v e k rows)) w :=
  h.turn hm rfl rfl rfl rfl rfl (Nat.le_refl _) (fun _ _ => rfl) (tl_of_own (h.get hm).1 rfl (h.get hm).2)
theorem drop_own (v : Value) (l k : Nat) : (dropv v l k).ownBlock = v.ownBlock := by
  unfold dropv
  split
  · rename_i a len c
    cases a with
    | none => split <;> rfl
    | some a =>
      split
      · rfl
      · simp only [Option.map_some, Value.ownBlock]
        unfold Addr.add
        split <;> rfl
  · rfl
theorem tlHolds.drop (h : tlHolds w v e k rows) (l : Nat) (hl : l ≤ rows.length) : tlHolds w (dropv v l k) e k (rows.drop l) := by
  obtain ⟨h1, h3⟩ := h
  refine ⟨fun r hr => h1 r (List.mem_of_mem_drop hr), ?_⟩
  rcases h3 with ⟨rfl, rfl⟩ | ⟨g, off, cap, cur, rfl, hg, hn, hc, hs, ht⟩
  · exact .inl ⟨by simp [dropv], by simp⟩
  · by_cases hz : cap - l = 0
    · have hl2 : rows.length - l = 0 := by omega
      refine .inr ⟨g, off, 0, cur, by simp [dropv, hz], hg, by simp; omega, by simp [maxLen], by omega, ?_⟩
      rw [List.length_drop, hl2]
      simp [List.drop_eq_nil_of_le (show rows.length ≤ l by omega)]
    · refine .inr ⟨g, off + l * k, cap - l, cur, by simp [dropv, hz, Addr.add_lit], hg, by simp; omega, by omega, ?_, ?_⟩
      · have : cap * k = l * k + (cap - l) * k := by rw [← Nat.add_mul]; congr 1; omega
        omega
      · rw [List.length_drop]
        have e1 : (rows.drop l).flatten = rows.flatten.drop (l * k) := by
          have h4 : rows.flatten = (rows.take l).flatten ++ (rows.drop l).flatten := by rw [← List.flatten_append, List.take_append_drop]
          have h5 : (rows.take l).flatten.length = l * k := by
            rw [flat_len _ (fun r hr => h1 r (List.mem_of_mem_take hr)), List.length_take, Nat.min_eq_left hl]
          rw [h4, ← h5, List.drop_left]
        rw [e1, ← ht, List.drop_take, List.drop_drop, Nat.sub_mul]
theorem Cls.tlDrop (h : Cls w0 own m w) (hm : m[i]? = some (.tl v e k rows)) {l : Nat} (hl : l ≤ rows.length) : Cls w0 own (m.set i (.tl (dropv v l k) e k (rows.drop l))) w :=
  h.turn hm (by simp only [As.foot, drop_own]) rfl rfl rfl rfl (Nat.le_refl _) (fun _ _ => rfl) (tlHolds.drop (h.get hm) l hl)
theorem Cls.tlDropM {α : Type} {g : α → List Value} {l u : List α} {lo : Int} (h : Cls w0 own m w) (hc : cut l lo l.length = some u) (hm : m[i]? = some (.tl v e k (l.map g))) : Cls w0 own (m.set i (.tl (dropv v lo.toNat k) e k (u.map g))) w := by
  obtain ⟨h0, h1, h2, rfl⟩ := cut_some hc
  have h3 := h.tlDrop hm (l := lo.toNat) (by rw [List.length_map]; omega)
  have e1 : (l.map g).drop lo.toNat = ((l.take ((l.length : Int)).toNat).drop lo.toNat).map g := by
    rw [Int.toNat_natCast, List.take_length, List.map_drop]
  rwa [e1] at h3
theorem Cls.tlGrew (h : Cls w0 own m w) (hi : m[i]? = some (.tl v e k rows)) (hdr : w.drawn ≤ w'.drawn) (hg : w.grownBy w' v.ownBlock)
    (hb : v'.ownBlock = v.ownBlock ∨ v'.ownBlock = some w.heap.size) (hy : (As.tl v' e k rows').holds w') : Cls w0 own (.tl v' e k rows' :: m.eraseIdx i) w' := by
  obtain ⟨hil, hxi⟩ := List.getElem?_eq_some_iff.1 hi
  have hp : m.Perm (.tl v e k rows :: m.eraseIdx i) := by
    have : ∀ (l : List As) (j : Nat) (h : j < l.length), l.Perm (l[j] :: l.eraseIdx j) := by
      intro l
      induction l with
      | nil => intro j h; simp at h
      | cons q l ih =>
        intro j h
        cases j with
        | zero => simp
        | succ j => simp only [List.getElem_cons_succ, List.eraseIdx_cons_succ]; exact ((ih j (by simpa using h)).cons q).trans (.swap _ _ _)
    have := this m i hil
    rwa [hxi] at this
  have h' := h.perm hp.symm
  have hnd := h'.nodup
  rw [List.flatMap_cons, List.nodup_append] at hnd
  obtain ⟨hn1, hn2, hn3⟩ := hnd
  refine ⟨hg.os.trans h.os, hg.tape.trans h.tape, hg.output.trans h.output, Nat.le_trans h.dr hdr, Nat.le_trans h.size hg.size, fun q hq ho => ?_, ?_, fun x hx => ?_⟩
  · rw [hg.block q (Nat.lt_of_lt_of_le hq h.size), h.old q hq ho]
    intro hv
    have := (h'.mine _ (List.mem_cons_self)).2 q (by simp [As.foot, ← hv])
    rcases this with h1 | h1
    · omega
    · exact ho h1
  · rw [List.flatMap_cons, List.nodup_append]
    refine ⟨by cases hv : v'.ownBlock <;> simp [As.foot, hv], hn2, fun a ha b hb' heq => ?_⟩
    subst heq
    simp only [As.foot, Option.mem_toList] at ha
    rcases hb with hb | hb
    · exact hn3 a (by simp [As.foot, ← hb, ha]) a hb' rfl
    · rw [hb] at ha
      injection ha with ha
      have := (h'.sublist (List.sublist_cons_self _ _)).foot_lt a hb'
      omega
  · rcases List.mem_cons.1 hx with rfl | hx
    · refine ⟨hy, fun b hb' => ?_⟩
      simp only [As.foot, Option.mem_toList] at hb'
      rcases hb with hb | hb
      · exact (h'.mine _ (List.mem_cons_self)).2 b (by simp [As.foot, ← hb, hb'])
      · rw [hb] at hb'
        injection hb' with hb'
        exact .inl (hb' ▸ h.size)
    · have hxm := h'.mine x (List.mem_cons_of_mem _ hx)
      refine ⟨As.holds_congr hxm.1 fun b hb' => ?_, hxm.2⟩
      refine hg.block b (As.holds_lt hxm.1 b hb') fun heq => ?_
      exact hn3 b (by simp [As.foot, ← heq]) b (List.mem_flatMap.2 ⟨x, hx, hb'⟩) rfl
end
section
variable {P : Program} {v v' : Value} {e : TypeId} {k : Nat} {rows rows' more : List (List Value)} {w : World}
theorem run_append_tl {t ty : TypeId} {i : TypeInfo} {z : Value} {bytes : Nat} (ht : P.underlying t = some (.slice e)) (hi : P.info? e = some i) (hz : i.zero = some z) (hsize : i.size = k) (hby : i.bytes = bytes) (hzs : z.cells.size = k) (hsz : 0 < k)
    (h : tlHolds w v e k rows) (a : Addr) (c : Nat) (hmore : ∀ r ∈ more, r.length = k) (hnews : ∀ j u, more.flatten[j]? = some u → w.cell? (a.add j) = some u) (h1 : ∀ u ∈ more.flatten, u.oneCell' = true) (h63 : rows.length + more.length ≤ maxLen) (hbytes : (rows.length + more.length) * bytes ≤ 140737488355328) :
    ∃ v' w', (Builtin.append_ #[t, t] ty #[v, .slice (some a) more.length c]).run P w = .ok v' w' ∧ tlHolds w' v' e k (rows ++ more) ∧ w.grownBy w' v.ownBlock ∧ (v'.ownBlock = v.ownBlock ∨ v'.ownBlock = some w.heap.size) := by
  have hl : more.flatten.length = more.length * k := flat_len _ hmore
  have hlr : rows.flatten.length = rows.length * k := flat_len _ h.1
  have hall : ∀ r ∈ rows ++ more, r.length = k := fun r hr => (List.mem_append.1 hr).elim (h.1 r) (hmore r)
  have hlen : (rows ++ more).length = rows.length + more.length := List.length_append
  have hsmall : rows.length + more.length ≤ 9223372036854775807 := by simp only [maxLen] at h63; omega
  rcases h.2 with ⟨rfl, rfl⟩ | ⟨g, off, cap, cur, rfl, hg, hn, hc, hs, hta⟩
  · obtain ⟨v', w', g1, g2, g3, _, g5⟩ := run_append_own_at (P := P) w 0 t ty e i z k bytes ht hi hz hsize hby hzs hsz (.slice none 0 0) 0 [] (World.ownsRow_nil ..) a more.length c more.flatten hl hnews h1 (by simpa using h63) (by simpa using hbytes) (Nat.zero_le _)
    exact ⟨v', w', g1, tl_of_own (n := more.length) hall (by simp) (by simpa using g2), g3, g5⟩
  · by_cases hroom : rows.length + more.length ≤ cap
    · have hfit : rows.length * k + more.flatten.length ≤ cap * k := by rw [hl, ← Nat.add_mul]; exact Nat.mul_le_mul_right _ hroom
      have hfit2 : off + rows.length * k + more.flatten.length ≤ cur.size := by omega
      have hr : (Builtin.append_ #[t, t] ty #[.slice (some ⟨g, off, none⟩) rows.length cap, .slice (some a) more.length c]).run P w =
          .ok (.slice (some ⟨g, off, none⟩) (rows.length + more.length) cap) (w.setRow g (cur.toList.take (off + rows.length * k) ++ more.flatten ++ cur.toList.drop (off + rows.length * k + more.flatten.length)).toArray) := by
        subst hsize
        have hf := run_firstCells_some (P := P) w i.size more.length a more.length c more.flatten hl hnews
        have hst := run_storeCells_at P g (off + rows.length * i.size) e more.flatten 0 cur w hg (by simpa using hfit2) h1
        simp only [Nat.add_zero] at hst
        simp only [Builtin.append_]
        simp [run_underlying ht, sizeOf, typeInfo, hi, Builtin.lenOf, hroom, hf, Addr.add_lit, hst]
      refine ⟨_, _, hr, ⟨hall, .inr ⟨g, off, cap, _, by rw [hlen], setRow_heap w g cur _ e _ hg, by omega, hc, ?_, ?_⟩⟩, ⟨rfl, rfl, rfl, by simp, fun k _ hk => setRow_other w g k _ (fun e => hk (by simp [Value.ownBlock, e]))⟩, .inl rfl⟩
      · simp only [List.size_toArray, List.length_append, List.length_take, List.length_drop, Array.length_toList]
        omega
      · have hp : (cur.toList.take (off + rows.length * k)).drop off = rows.flatten := by
          rw [← hta, List.drop_take, Nat.add_sub_cancel_left]
        have hle : off ≤ (cur.toList.take (off + rows.length * k)).length := by
          have h9 : cur.toList.length = cur.size := Array.length_toList
          rw [List.length_take]; omega
        rw [List.append_assoc, List.drop_append_of_le_length hle, hp, ← List.append_assoc, List.flatten_append, hlen]
        have hle2 : (rows.length + more.length) * k = (rows.flatten ++ more.flatten).length := by rw [List.length_append, hlr, hl, Nat.add_mul]
        rw [hle2, List.take_left]
    · have hAt := h.at
      have holds : ∀ j u, rows.flatten[j]? = some u → w.cell? ((⟨g, off, none⟩ : Addr).add j) = some u := fun j u hu => hAt.flat_cell hsz j u hu
      subst hsize hby
      have hr := run_append_grow (P := P) w t ty e i z ht hi hz ⟨g, off, none⟩ rows.length cap rows.flatten hlr holds a more.length c more.flatten hl hnews (by omega) (by omega) (growslice_fits (by omega) hbytes)
      have hge := grownCap_ge w (rows.length + more.length) cap e
      have hcm : grownCap w (rows.length + more.length) cap e ≤ maxLen := grownCap_le_maxLen w (rows.length + more.length) cap e h63
      have e2 : (rows.flatten.toArray ++ more.flatten.toArray ++ Builtin.zeroCells z.cells (grownCap w (rows.length + more.length) cap e - (rows.length + more.length))).size = grownCap w (rows.length + more.length) cap e * i.size := by
        simp only [Array.size_append, List.size_toArray, size_zeroCells, hzs, hlr, hl, ← Nat.add_mul]
        congr 1
        omega
      refine ⟨_, _, hr, ⟨hall, .inr ⟨w.heap.size, 0, _, _, by rw [hlen], heap_alloc_new w.drew _, by omega, hcm, by omega, ?_⟩⟩, ⟨rfl, rfl, rfl, by simp, fun k hk _ => heap_alloc_old w.drew _ hk⟩, .inr rfl⟩
      rw [List.drop_zero, hlen, List.flatten_append]
      simp only [Array.toList_append, List.append_assoc]
      rw [← List.append_assoc]
      have hle2 : (rows.length + more.length) * i.size = (rows.flatten ++ more.flatten).length := by rw [List.length_append, hlr, hl, Nat.add_mul]
      rw [hle2, List.take_left]
end
section
variable {P : Program} {Q : Exit → Act → World → Prop} {n : Nat} {fs : Fr} {t : TypeId} {ops : Array Oper} {rest : List Oper} {d : Nat} {pos : String} {af : Array Edge}
variable {w0 : World} {own : List Nat} {m : List As} {x y : Operand} {e tx : TypeId} {i k by' : Nat} {v u : Value}
theorem run_append_nil_tl {rows : List (List Value)} {ty : TypeId} (ht : P.underlying t = some (.slice e)) (hs : szB P e k = true) {w : World} (h : tlHolds w v e k rows) : (Builtin.append_ #[t, t] ty #[v, .slice none 0 0]).run P w = .ok v w := by
  rcases h.2 with ⟨rfl, rfl⟩ | ⟨g, off, cap, cur, rfl, _, hnc, _⟩
  · simp [Builtin.append_, run_underlying ht, run_sizeOf hs, Builtin.lenOf, Builtin.firstCells]
  · simp [Builtin.append_, run_underlying ht, run_sizeOf hs, Builtin.lenOf, Builtin.firstCells, hnc, storeCells]
theorem L.appTl {α ρ : Type} {r : ρ} {g : α → List Value} {l more : List α} {f : List α → Option ρ} (h : bind1 (app l more) f = some r) (hd : Nat.blt d n = true) (hu : P.underlying tx = some (.slice e)) (he : elemB P e k by' = true)
    (hx : val fs x = some v) (hy : val fs y = some u) (hm : m[i]? = some (.tl v e k (l.map g))) (hB : ∀ w, Cls w0 own m w → At w u k (more.map g)) (hp : Plain (more.map g)) (hb : Nat.ble by' 56 = true)
    (next : ∀ v' z, app l more = some z → f z = some r → L P ops Q n (Cls w0 own (.tl v' e k (z.map g) :: m.eraseIdx i)) rest ((d, v') :: fs)) :
    L P ops Q n (Cls w0 own m) (⟨some d, .call ⟨.builtin .append, #[x, y], #[tx, tx]⟩, t, pos, af, none⟩ :: rest) fs := by
  obtain ⟨z, hz, h⟩ := bind1S h
  obtain ⟨rfl, hl⟩ := app_some hz
  have hb' : by' ≤ 56 := by simpa using hb
  have hl1 : (l.map g).length + (more.map g).length ≤ maxLen := by simp only [List.length_map]; unfold maxLen; omega
  have hl2 : ((l.map g).length + (more.map g).length) * by' ≤ 140737488355328 := by
    simp only [List.length_map]
    calc (l.length + more.length) * by' ≤ 2513169434916 * 56 := Nat.mul_le_mul hl hb'
      _ ≤ _ := by decide
  refine L.runs (R := fun v' w' => Cls w0 own (.tl v' e k ((l ++ more).map g) :: m.eraseIdx i) w') hd (fun a w hs hw => ?_) (fun v' => next v' _ hz h)
  obtain ⟨inf, z, hi, hz, hsz, hby, hzs, hk⟩ := elemB_out he
  have hown := hw.get hm
  have hBw := hB w hw
  have key : ∃ v' w', (Builtin.append_ #[tx, tx] t #[v, u]).run P w = .ok v' w' ∧ tlHolds w' v' e k (l.map g ++ more.map g) ∧ w.grownBy w' v.ownBlock ∧ (v'.ownBlock = v.ownBlock ∨ v'.ownBlock = some w.heap.size) := by
    rcases hBw.shape with ⟨rfl, h0⟩ | ⟨ad, cap, rfl, _, _⟩
    · refine ⟨v, w, run_append_nil_tl hu (by simp [szB, hi, hsz]) hown, by rw [h0, List.append_nil]; exact hown, ⟨rfl, rfl, rfl, Nat.le_refl _, fun _ _ _ => rfl⟩, .inl rfl⟩
    · exact run_append_tl (P := P) hu hi hz hsz hby hzs hk hown ad cap hBw.len (by simpa [adr] using hBw.flat_cell hk)
        (fun u' hu' => by obtain ⟨r, hr, hur⟩ := List.mem_flatten.1 hu'; exact hp r hr u' hur) hl1 hl2
  obtain ⟨v', w', h1, h2, h3, h4⟩ := key
  refine ⟨v', w', ?_, hw.tlGrew hm (run_drawn _ h1) h3 h4 (by rw [List.map_append]; exact h2)⟩
  simp only [execOp, resolve, List.map_toArray, List.map_cons, List.map_nil, hs.eval hx, hs.eval hy]
  simp [invoke, builtin, h1]
end
end Go.S
