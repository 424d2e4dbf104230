/-
  A range over an iterator that is told by what it asks of the world: the law for a function of classes.
  Conditions: none.
-/
import Derived.Test.YtdebhhjbgbkbjaaVy
namespace Go.S
open Go.RowKit
set_option linter.unusedVariables false
set_option linter.unusedSimpArgs false
def okO : Obj → Bool
  | .cells .. => true
  | .map .. => true
  | _ => false
theorem okO_cells {o : Obj} (h : o.isCells = true) : okO o = true := by cases o <;> first | rfl | cases h
/-- What it owns are cells, or a map. -/
def fk (x : As) : Prop := ∀ w, x.holds w → ∀ b ∈ x.foot, ∃ o, w.heap[b]? = some o ∧ okO o = true
theorem fk_cells {x : As} (h : cellK x = true) : fk x := fun w hw b hb => by
  obtain ⟨o, h1, h2⟩ := As.cells_foot hw h b hb
  exact ⟨o, h1, okO_cells h2⟩
theorem fk_mp {b : Nat} {l : List (Int × Value)} : fk (.mp b l) := fun w hw b' hb => by
  obtain ⟨es, clock, h1, _⟩ := hw
  simp only [As.foot, List.mem_singleton] at hb
  subst hb
  exact ⟨_, h1, rfl⟩
theorem fk_all {L : List As} (h : ∀ x ∈ L, fk x) : fk (.any (allR L)) := fun w hw b hb => by
  obtain ⟨x, hx, hbx⟩ := List.mem_flatMap.1 hb
  exact h x hx w ((hw : ∀ x ∈ L, x.holds w) x hx) b hbx
theorem fk_arn {α : Type} {row : α → List Value → List Value} {sub : α → List Value → List As} {e : TypeId} (hs : ∀ x v, ∀ z ∈ sub x v, fk z) {g : Nat → Nat} {gh : Nat → List Value} {l : List α} : fk (arn row sub e g gh l []) := by
  refine fk_all ?_
  rw [hol_nil]
  intro x hx
  induction l generalizing g gh with
  | nil => cases hx
  | cons y l ih =>
    rw [zT] at hx
    rcases List.mem_cons.1 hx with rfl | hx
    · refine fk_all fun z hz => ?_
      rcases List.mem_cons.1 hz with rfl | hz
      · exact fk_cells rfl
      · exact hs _ _ z hz
    · exact ih hx
theorem fk0 : ∀ x ∈ ([] : List As), fk x := fun _ h => nomatch h
theorem fk1 {x : As} {m : List As} (h : fk x) (h2 : ∀ y ∈ m, fk y) : ∀ y ∈ x :: m, fk y := fun y hy => by
  rcases List.mem_cons.1 hy with rfl | hy
  · exact h
  · exact h2 y hy
section
variable {P : Program} {n : Nat} {w w' w0 : World} {fn : Func} {R : Value → List As → Prop} {m m' : List As} {own : List Nat}
theorem Cls.feetF (h : Cls w0 own m w) (hk : ∀ x ∈ m, fk x) : ∀ b ∈ m.flatMap As.foot, ∃ o, w.heap[b]? = some o ∧ okO o = true := by
  intro b hb
  obtain ⟨x, hx, hbx⟩ := List.mem_flatMap.1 hb
  exact hk x hx w (h.mine x hx).1 b hbx
theorem not_footF {W : World} (h : Cls w0 own m W) (hk : ∀ x ∈ m, fk x) {k : Nat} {o : Obj} (ho : W.heap[k]? = some o) (hc : okO o = false) : k ∉ m.flatMap As.foot := by
  intro hm
  obtain ⟨o', h1, h2⟩ := h.feetF hk k hm
  rw [ho] at h1
  cases h1
  rw [hc] at h2
  cases h2
theorem As.holds_grownF {x : As} {row : Option Nat} (h : x.holds w) (hk : fk x) (hg : w.grownBy w' row) (hr : ∀ r, row = some r → ∃ o : Obj, w.heap[r]? = some o ∧ okO o = false) : x.holds w' := by
  refine As.holds_congr h fun b hb => ?_
  obtain ⟨o, h1, h2⟩ := hk w h b hb
  refine hg.block b (Array.getElem?_eq_some_iff.1 h1).1 fun e => ?_
  obtain ⟨o', h3, h4⟩ := hr b e.symm
  rw [h1] at h3
  cases h3
  rw [h2] at h4
  cases h4
theorem Cls.grewF (h : Cls w0 [] m w) (hz : w0.drawn = 0) (hk : ∀ x ∈ m, fk x) {row : Option Nat} (hg : w.grownBy w' row) (hr : ∀ r, row = some r → w0.heap.size ≤ r ∧ ∃ o : Obj, w.heap[r]? = some o ∧ okO o = false) : Cls w0 [] m w' := by
  refine ⟨hg.os.trans h.os, hg.tape.trans h.tape, hg.output.trans h.output, DR.of (by omega), Nat.le_trans h.size hg.size, fun k hk' _ => ?_, h.nodup, fun x hx => ⟨As.holds_grownF (h.mine x hx).1 (hk x hx) hg (fun r e => (hr r e).2), (h.mine x hx).2⟩⟩
  rw [hg.block k (Nat.lt_of_lt_of_le hk' h.size) (fun e => by have := (hr k e.symm).1; omega)]
  exact h.old k hk' (by simp)
theorem E.retF1 {fs : Fr} {wG : World} {D : Nat} {oG : List Nat} {RR : Ending → World → Prop} {x : ResultVar} {v : Value} (hD : wG.heap[D]? = some (.deferred (some []))) (hDo : D ∉ oG) (hk : ∀ x ∈ m, fk x) (hr : fn.results = #[x])
    (h1 : Rv P fs (Cls wG (D :: oG) m) x v) (h : ∀ w, Cls wG (D :: oG) m w → RR (.returned v) w) : E .ret (postM P fn D RR) n (Cls wG oG m) fs := by
  intro a w hs hc
  have hDl := (Array.getElem?_eq_some_iff.1 hD).1
  have hkD : w.heap[D]? = some (.deferred (some [])) := (hc.old D hDl hDo).trans hD
  have hw : Cls wG (D :: oG) m (w.putObj D (.deferred none)) := by
    refine ⟨hc.os, hc.tape, hc.output, hc.dr, by simpa using hc.size, fun k hk' hn => ?_, hc.nodup, fun X hX => ⟨As.holds_grownF (hc.mine X hX).1 (hk X hX) (grownBy_putObj' w D _) (fun r e => by cases e; exact ⟨_, hkD, rfl⟩), fun b hb => ?_⟩⟩
    · simp only [List.mem_cons, not_or] at hn
      rw [World.putObj_heap_other hn.1]
      exact hc.old k hk' hn.2
    · rcases (hc.mine X hX).2 b hb with h4 | h4
      · exact .inl h4
      · exact .inr (List.mem_cons_of_mem _ h4)
  refine ⟨hkD, v, ?_, h _ hw⟩
  have e1 := h1.run hs hw
  rw [results_eq, hr]
  simp [e1]
/-- An iterator that hands over these, as long as what is known of the world is kept. -/
def HandsI {β : Type} (P : Program) (gf : FuncId) (caps : List Value) (ev1 ev2 : β → Value) (IA : List As) (xs : List β) : Prop :=
  ∀ (l : Nat) (J : List β → World → Prop) (W : World), (∀ rest W, J rest W → Cls W (IA.flatMap As.foot) IA W) → (∀ rest W W', J rest W → Cls W (IA.flatMap As.foot) IA W' → J rest W') →
    (∀ x rest W1, J (x :: rest) W1 → YieldAt Fence.wide 7 P l #[ev1 x, ev2 x] W1 fun e W' => e = .returned (.bool true) ∧ J rest W') →
    J xs W → CallsIn Fence.wide 8 P gf (.func (.yield l) #[] #[] :: caps).toArray W fun e W' => (∃ v, e = .returned v) ∧ J [] W'
theorem W.rangeI {β : Type} {ev1 ev2 : β → Value} {gf p1 p2 id : Nat} {caps : List Value} {xs : List β} {C : World → Prop} {m0 IA : List As} (J0 : List β → List As → Prop) (J1 : β → List β → Fr → List As → Prop)
    {g : Operand} {assign bd y : Code} {fs : Fr} (hz : w.drawn = 0) (hg : val fs g = some (.func (.func gf) #[] caps.toArray)) (eg : entB P gf = true) (hp1 : Nat.blt p1 n = true) (hp2 : Nat.blt p2 n = true)
    (hC : ∀ W, C W → Cls w [] m0 W) (h0 : J0 xs m0) (hseq : HandsI P gf caps ev1 ev2 IA xs)
    (hc0 : ∀ rest m, J0 rest m → (∀ x ∈ m, fk x) ∧ ∃ M, m = IA ++ M)
    (hc1 : ∀ x rest gs m, J1 x rest gs m → ∀ x ∈ m, fk x)
    (ha : ∀ (l : Nat) x rest m, J0 (x :: rest) m → ∀ wG oG, G (Fence.wide.inRound l) 7 [] P (KA J1 x rest n wG oG) n (Cls wG oG m) assign ((p2, ev2 x) :: (p1, ev1 x) :: fs))
    (hb : ∀ (l : Nat) x rest gs m, J1 x rest gs m → ∀ wG oG, G (Fence.wide.inRound l) 7 [] P (KB J0 rest wG oG) n (Cls wG oG m) bd gs)
    (hy : ∀ D m, J0 [] m → ∀ wG oG, wG.heap[D]? = some (.deferred (some [])) → D ∉ oG → G Fence.wide 9 [{ target := .collected D, args := #[] }] P (postM P fn D (R0 wG (D :: oG) R)) n (Cls wG oG m) y fs) :
    W P (Exit.then (y.wp P (PM P fn (R0 w [] R))) (PM P fn (R0 w [] R))) n C (.block id (.rangeFunc g #[p1, p2] assign bd)) fs := by
  intro a w1 hs hc
  have hC1 := hC _ hc
  have hm0 := (hc0 _ _ h0).1
  refine wp_block ((wpIn_wide (n := 9)).1 (wpIn_rangeFunc ?_))
  intro fn' hfn
  obtain ⟨rec, hrec⟩ : ∃ rec : LoopState → Option Code → Loop, rec = fun st pe => { state := st, pending := pe, fn := fn', tmps := a.tmps, params := #[p1, p2], assign, body := bd, defers := w1.heap.size } := ⟨_, rfl⟩
  obtain ⟨W1, hW1⟩ : ∃ W1, (w1.alloc (.deferred (some []))).alloc (.loop (rec .ready none)) = W1 := ⟨_, rfl⟩
  have hL1 : W1.heap[w1.heap.size + 1]? = some (.loop (rec .ready none)) := by
    rw [← hW1]; have := World.alloc_heap_new (w1.alloc (.deferred (some []))) (.loop (rec .ready none)); rwa [World.size_alloc] at this
  have hK1 : W1.heap[w1.heap.size]? = some (.deferred (some [])) := by
    rw [← hW1]; exact (Below.heap_alloc _ _ _ (by simp)).trans (World.alloc_heap_new w1 _)
  have hCW : Cls w [] m0 W1 := by
    rw [← hW1]
    exact (hC1.grewF hz hm0 (World.grownBy_alloc _ _ none) (fun r e => by cases e)).grewF hz hm0 (World.grownBy_alloc _ _ none) (fun r e => by cases e)
  have hsz := hC1.size
  obtain ⟨l, hl⟩ : ∃ l, l = w1.heap.size + 1 := ⟨_, rfl⟩
  have heg : a.eval g = .func (.func gf) #[] caps.toArray := hs.eval hg
  refine ⟨l, [{ target := .collected w1.heap.size, args := #[] }], W1, { target := .fn (.func gf) caps.toArray, args := #[.func (.yield l) #[] #[]] }, W1, gf, (.func (.yield l) #[] #[] :: caps).toArray, W1, ?_, ?_, ?_, ?_, fun _ => by omega, ?_⟩
  · rw [← hW1, hrec, hl]; exact run_enterLoop_outer _ _ _ _ _
  · simp only [resolve, rangeCall, heg]
    simp [go_sem, heg]
  · intro f' _; trivial
  · simp [invoke, go_sem, run_call eg]
  · rw [← hl] at hL1
    refine (hseq l (fun rest W => ∃ m, J0 rest m ∧ Cls w [] m W ∧ W.heap[l]? = some (.loop (rec .ready none)) ∧ W.heap[w1.heap.size]? = some (.deferred (some []))) W1 ?_ ?_ ?_ ⟨m0, h0, hCW, hL1, hK1⟩).mono ?_
    · rintro rest W ⟨m, hj, hcl, _, _⟩
      obtain ⟨_, M, rfl⟩ := hc0 _ _ hj
      exact hcl.lend
    · rintro rest W W' ⟨m, hj, hcl, hlW, hkW⟩ h
      obtain ⟨hmc, M, rfl⟩ := hc0 _ _ hj
      have hno : ∀ {k : Nat} {o : Obj}, W.heap[k]? = some o → okO o = false → k ∉ IA.flatMap As.foot := fun ho hc hm => not_footF hcl hmc ho hc (by rw [List.flatMap_append]; exact List.mem_append_left _ hm)
      exact ⟨_, hj, hcl.back h, (h.old l (Array.getElem?_eq_some_iff.1 hlW).1 (hno hlW rfl)).trans hlW, (h.old _ (Array.getElem?_eq_some_iff.1 hkW).1 (hno hkW rfl)).trans hkW⟩
    · rintro x rest W ⟨m, hj, hcl, hlW, hkW⟩
      have hmc := (hc0 _ _ hj).1
      have hy1 := run_yield (P := P) (args := #[ev1 x, ev2 x]) hlW (by rw [hrec]; rfl)
      rw [hrec] at hy1
      refine ⟨fn', _, assign, bd, hy1, roundIn_of_wpIn hfn ?_⟩
      have hslots : Slots n ((p2, ev2 x) :: (p1, ev1 x) :: fs) { tmps := (a.tmps.setIfInBounds p1 (ev1 x)).setIfInBounds p2 (ev2 x), defers := [] } := by
        have := (hs.put hp1 (ev1 x)).put hp2 (ev2 x)
        simp only [Act.put] at this
        rw [hs.defers] at this
        exact this
      have hG := ha l x rest m hj W (m.flatMap As.foot) noOut_KN _ W hslots hcl.restart
      refine wpIn_mono (by simpa using hG) ?_
      rintro e a1 Wa ⟨a0, h00, rfl, hKK⟩
      cases e with
      | normal =>
        obtain ⟨gs, m1, hj1, hs1, hca⟩ := hKK
        have hmc1 := hc1 _ _ _ _ hj1
        have hla : Wa.heap[l]? = some (.loop (rec .ready none)) := (hca.old l (Array.getElem?_eq_some_iff.1 hlW).1 (not_footF hcl hmc hlW rfl)).trans hlW
        have hka : Wa.heap[w1.heap.size]? = some (.deferred (some [])) := (hca.old _ (Array.getElem?_eq_some_iff.1 hkW).1 (not_footF hcl hmc hkW rfl)).trans hkW
        have hcwa : Cls w [] m1 Wa := hcl.chain hca (fun b hb => .inl hb)
        refine ⟨_, run_beginRound hla (by rw [hrec]), ?_⟩
        obtain ⟨Wb, hWb⟩ : ∃ Wb, Wa.putObj l (.loop { rec .ready none with state := .busy }) = Wb := ⟨_, rfl⟩
        rw [hWb]
        have hlb : Wb.heap[l]? = some (.loop { rec .ready none with state := .busy }) := by rw [← hWb]; exact World.putObj_heap_same (Array.getElem?_eq_some_iff.1 hla).1
        have hkb : Wb.heap[w1.heap.size]? = some (.deferred (some [])) := by rw [← hWb]; exact (World.putObj_heap_other (by omega)).trans hka
        have hcwb : Cls w [] m1 Wb := by
          rw [← hWb]
          exact hcwa.grewF hz hmc1 (grownBy_putObj' Wa l _) (fun r e => by cases e; exact ⟨by omega, _, hla, rfl⟩)
        have hG2 := hb l x rest gs m1 hj1 Wb (m1.flatMap As.foot) noOut_KN a0 Wb hs1 hcwb.restart
        refine wpIn_mono hG2 ?_
        rintro e a3 Wc ⟨a4, _, rfl, hKK⟩
        cases e with
        | normal =>
          obtain ⟨m2, hj2, hcc⟩ := hKK
          have hmc2 := (hc0 _ _ hj2).1
          have hlc : Wc.heap[l]? = some (.loop { rec .ready none with state := .busy }) := (hcc.old l (Array.getElem?_eq_some_iff.1 hlb).1 (not_footF hcwb hmc1 hlb rfl)).trans hlb
          have hkc : Wc.heap[w1.heap.size]? = some (.deferred (some [])) := (hcc.old _ (Array.getElem?_eq_some_iff.1 hkb).1 (not_footF hcwb hmc1 hkb rfl)).trans hkb
          have hcwc : Cls w [] m2 Wc := hcwb.chain hcc (fun b hb => .inl hb)
          have hend := run_endRound (P := P) none hlc
          obtain ⟨Wd, hWd⟩ : ∃ Wd, Wc.putObj l (.loop (rec .ready none)) = Wd := ⟨_, rfl⟩
          have hcwd : Cls w [] m2 Wd := by
            rw [← hWd]
            exact hcwc.grewF hz hmc2 (grownBy_putObj' Wc l _) (fun r e => by cases e; exact ⟨by omega, _, hlc, rfl⟩)
          refine ⟨.bool true, Wd, ?_, rfl, m2, hj2, hcwd, ?_, ?_⟩
          · rw [hend, ← hWd, hrec]; rfl
          · rw [← hWd]; exact World.putObj_heap_same (Array.getElem?_eq_some_iff.1 hlc).1
          · rw [← hWd]; exact (World.putObj_heap_other (by omega)).trans hkc
        | _ => exact hKK.elim
      | _ => exact hKK.elim
    · rintro e W2 ⟨⟨v, rfl⟩, m2, hj, hcl, hlW, hkW⟩
      have hmc := (hc0 _ _ hj).1
      have hend := run_endLoop (P := P) hlW (by rw [hrec]; simp)
      obtain ⟨W3, hW3⟩ : ∃ W3, W2.putObj l (.loop { rec .ready none with state := .exhausted }) = W3 := ⟨_, rfl⟩
      have hcw : Cls w [] m2 W3 := by
        rw [← hW3]
        exact hcl.grewF hz hmc (grownBy_putObj' W2 l _) (fun r e => by cases e; exact ⟨by omega, _, hlW, rfl⟩)
      have hk3 : W3.heap[w1.heap.size]? = some (.deferred (some [])) := by rw [← hW3]; exact (World.putObj_heap_other (by omega)).trans hkW
      refine ⟨none, W3, by rw [hend, ← hW3, hrec], ?_⟩
      have hq : NoOut (postM P fn w1.heap.size (R0 W3 (w1.heap.size :: m2.flatMap As.foot) R)) := fun ⟨_, _, h⟩ => h
      have hG := hy w1.heap.size m2 hj W3 (m2.flatMap As.foot) hk3 (not_footF hcw hmc hk3 rfl) hq a W3 hs hcw.restart
      show y.wp P _ { a with defers := [{ target := .collected w1.heap.size, args := #[] }] ++ a.defers } W3
      rw [hs.defers]
      refine wp_mono (wpIn_wide.1 hG) ?_
      rintro e a' W' ⟨a0, h00, rfl, h⟩
      cases e with
      | ret =>
        obtain ⟨hk', u, hr, u', m', hu, hR, hcl'⟩ := h
        show LeavesInM Fence.wide 9 P fn a0.tmps _ [{ target := .collected w1.heap.size, args := #[] }] .returning W'
        refine ⟨by simp, .inl ⟨w1.heap.size, _, rfl, run_takeDeferred hk', u, hr, u', m', hu, hR, hcw.chain hcl' (fun b hb => ?_)⟩⟩
        rcases List.mem_cons.1 hb with rfl | hb
        · exact .inr hsz
        · exact .inl hb
      | _ => exact h.elim
end
end Go.S
