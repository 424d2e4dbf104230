/-
  A range over a function: the law for a function of classes.
  Conditions: none.
-/
import Derived.Test.YtfmgjigdebofaaaRh
namespace Go.S
open Go.RowKit
set_option linter.unusedVariables false
set_option linter.unusedSimpArgs false
/-- What a round keeps for the iterator: the cells ahead of n0, and a box. -/
structure KpB (n0 Bs : Nat) (A B : World) : Prop where
  low : ∀ k, k < n0 → B.heap[k]? = A.heap[k]?
  box : B.heap[Bs]? = A.heap[Bs]?
theorem KpB.refl (n0 Bs : Nat) (A : World) : KpB n0 Bs A A := ⟨fun _ _ => rfl, rfl⟩
theorem KpB.trans {n0 Bs : Nat} {A B C : World} (h : KpB n0 Bs A B) (h2 : KpB n0 Bs B C) : KpB n0 Bs A C := ⟨fun k hk => (h2.low k hk).trans (h.low k hk), h2.box.trans h.box⟩
/-- An iterator that hands over these, with a number beside each. -/
def HandsOver {β : Type} (P : Program) (gf Bs n0 : Nat) (ev : β → Value) (xs : List β) (w : World) : Prop :=
  ∀ (l : Nat) (J : List β → World → Prop) (W : World), KpB n0 Bs w W →
    (∀ x rest W1 i, J (x :: rest) W1 → YieldAt Fence.wide 7 P l #[.int .i64 i, ev x] W1 fun e W' => e = .returned (.bool true) ∧ J rest W' ∧ KpB n0 Bs W1 W') →
    J xs W → CallsIn Fence.wide 8 P gf #[.func (.yield l) #[] #[], pt Bs 0] W fun e W' => (∃ v, e = .returned v) ∧ J [] W'
def KA {β : Type} (J1 : β → List β → Fr → List As → Prop) (x : β) (rest : List β) (n : Nat) (w : World) (own : List Nat) : Exit → Act → World → Prop :=
  KN fun a w' => ∃ gs m', J1 x rest gs m' ∧ Slots n gs a ∧ Cls w own m' w'
def KB {β : Type} (J0 : List β → List As → Prop) (rest : List β) (w : World) (own : List Nat) : Exit → Act → World → Prop :=
  KN fun a w' => ∃ m', J0 rest m' ∧ Cls w own m' w'
def postM (P : Program) (fn : Func) (D : Nat) (RR : Ending → World → Prop) : Exit → Act → World → Prop := fun e a w => match e with
  | .ret => w.heap[D]? = some (.deferred (some [])) ∧ ∃ v, (results fn a.tmps).run P (w.putObj D (.deferred none)) = .ok v (w.putObj D (.deferred none)) ∧ RR (.returned v) (w.putObj D (.deferred none))
  | _ => False
section
variable {P : Program} {n : Nat} {w : World} {fn : Func} {R : Value → List As → Prop}
theorem not_foot {w0 : World} {own : List Nat} {m : List As} {W : World} (h : Cls w0 own m W) (hk : m.all cellK = true) {k : Nat} {o : Obj} (ho : W.heap[k]? = some o) (hc : o.isCells = false) : k ∉ m.flatMap As.foot := by
  intro hm
  obtain ⟨o', h1, h2⟩ := h.feet hk k hm
  rw [ho] at h1
  cases h1
  rw [hc] at h2
  cases h2
theorem E.assignJ {β : Type} {J1 : β → List β → Fr → List As → Prop} {x : β} {rest : List β} {wG : World} {oG : List Nat} {m m' : List As} {gs fs : Fr} (h : J1 x rest gs m') (hF : Sub gs fs) (hD : ∀ w, Cls wG oG m w → Cls wG oG m' w) : E .normal (KA J1 x rest n wG oG) n (Cls wG oG m) fs :=
  fun _ w hs hc => ⟨gs, m', h, hs.sub hF, hD w hc⟩
theorem E.roundJ {β : Type} {J0 : List β → List As → Prop} {rest : List β} {wG : World} {oG : List Nat} {m m' : List As} {fs : Fr} (h : J0 rest m') (hD : ∀ w, Cls wG oG m w → Cls wG oG m' w) : E .normal (KB J0 rest wG oG) n (Cls wG oG m) fs :=
  fun _ w hs hc => ⟨m', h, hD w hc⟩
theorem E.retM3 {fs : Fr} {wG : World} {D : Nat} {oG : List Nat} {m : List As} {RR : Ending → World → Prop} {x y z : ResultVar} {v u q : Value} (hD : wG.heap[D]? = some (.deferred (some []))) (hDo : D ∉ oG) (hk : m.all cellK = true) (hr : fn.results = #[x, y, z])
    (h1 : Rv P fs (Cls wG (D :: oG) m) x v) (h2 : Rv P fs (Cls wG (D :: oG) m) y u) (h3 : Rv P fs (Cls wG (D :: oG) m) z q) (h : ∀ w, Cls wG (D :: oG) m w → RR (.returned (.tuple #[v, u, q])) w) : E .ret (postM P fn D RR) n (Cls wG oG m) fs := by
  intro a w hs hc
  have hDl := (Array.getElem?_eq_some_iff.1 hD).1
  have hkD : w.heap[D]? = some (.deferred (some [])) := (hc.old D hDl hDo).trans hD
  have hw : Cls wG (D :: oG) m (w.putObj D (.deferred none)) := by
    refine ⟨hc.os, hc.tape, hc.output, hc.dr, by simpa using hc.size, fun k hk' hn => ?_, hc.nodup, fun X hX => ⟨As.holds_grown (hc.mine X hX).1 (List.all_eq_true.1 hk X hX) (grownBy_putObj' w D _) (fun r e => by cases e; exact ⟨_, hkD, rfl⟩), fun b hb => ?_⟩⟩
    · simp only [List.mem_cons, not_or] at hn
      rw [World.putObj_heap_other hn.1]
      exact hc.old k hk' hn.2
    · rcases (hc.mine X hX).2 b hb with h4 | h4
      · exact .inl h4
      · exact .inr (List.mem_cons_of_mem _ h4)
  refine ⟨hkD, .tuple #[v, u, q], ?_, h _ hw⟩
  have e1 := h1.run hs hw
  have e2 := h2.run hs hw
  have e3 := h3.run hs hw
  rw [results_eq, hr]
  simp [e1, e2, e3]
theorem W.rangeB {β : Type} {ev : β → Value} {gf Bs ib p1 p2 id : Nat} {sv : Value} {eb : TypeId} {xs : List β} {C : World → Prop} {m0 : List As} (J0 : List β → List As → Prop) (J1 : β → List β → Fr → List As → Prop)
    {g : Operand} {assign bd y : Code} {fs : Fr} (hz : w.drawn = 0) (hg : val fs g = some (.func (.func gf) #[] #[pt Bs 0])) (eg : entB P gf = true) (hp1 : Nat.blt p1 n = true) (hp2 : Nat.blt p2 n = true)
    (hC : ∀ W, C W → Cls w [] m0 W) (h0 : J0 xs m0) (hseq : ∀ W, Cls w [] m0 W → HandsOver P gf Bs w.heap.size ev xs W)
    (hc0 : ∀ rest m, J0 rest m → m.all cellK = true ∧ m[ib]? = some (.obj Bs [sv] eb))
    (hc1 : ∀ x rest gs m, J1 x rest gs m → m.all cellK = true)
    (ha : ∀ (l : Nat) x rest i m, J0 (x :: rest) m → ∀ wG oG, G (Fence.wide.inRound l) 7 [] P (KA J1 x rest n wG oG) n (Cls wG oG m) assign ((p2, ev x) :: (p1, .int .i64 i) :: fs))
    (hb : ∀ (l : Nat) x rest gs m, J1 x rest gs m → ∀ wG oG, G (Fence.wide.inRound l) 7 [] P (KB J0 rest wG oG) n (Cls wG oG m) bd gs)
    (hy : ∀ D m, J0 [] m → ∀ wG oG, wG.heap[D]? = some (.deferred (some [])) → D ∉ oG → G Fence.wide 9 [{ target := .collected D, args := #[] }] P (postM P fn D (R0 wG (D :: oG) R)) n (Cls wG oG m) y fs) :
    W P (Exit.then (y.wp P (PM P fn (R0 w [] R))) (PM P fn (R0 w [] R))) n C (.block id (.rangeFunc g #[p1, p2] assign bd)) fs := by
  intro a w1 hs hc
  have hC1 := hC _ hc
  have hm0 := (hc0 _ _ h0).1
  refine wp_block ((wpIn_wide (n := 9)).1 (wpIn_rangeFunc ?_))
  intro fn' hfn
  obtain ⟨rec, hrec⟩ : ∃ rec : LoopState → Option Code → Loop, rec = fun st pe => { state := st, pending := pe, fn := fn', tmps := a.tmps, params := #[p1, p2], assign, body := bd, defers := w1.heap.size } := ⟨_, rfl⟩
  obtain ⟨W1, hW1⟩ : ∃ W1, (w1.alloc (.deferred (some []))).alloc (.loop (rec .ready none)) = W1 := ⟨_, rfl⟩
  have hL1 : W1.heap[w1.heap.size + 1]? = some (.loop (rec .ready none)) := by
    rw [← hW1]; have := World.alloc_heap_new (w1.alloc (.deferred (some []))) (.loop (rec .ready none)); rwa [World.size_alloc] at this
  have hK1 : W1.heap[w1.heap.size]? = some (.deferred (some [])) := by
    rw [← hW1]; exact (Below.heap_alloc _ _ _ (by simp)).trans (World.alloc_heap_new w1 _)
  have hCW : Cls w [] m0 W1 := by
    rw [← hW1]
    exact (hC1.grewB hz hm0 (World.grownBy_alloc _ _ none) (fun r e => by cases e)).grewB hz hm0 (World.grownBy_alloc _ _ none) (fun r e => by cases e)
  have hsz := hC1.size
  obtain ⟨l, hl⟩ : ∃ l, l = w1.heap.size + 1 := ⟨_, rfl⟩
  have heg : a.eval g = .func (.func gf) #[] #[pt Bs 0] := hs.eval hg
  refine ⟨l, [{ target := .collected w1.heap.size, args := #[] }], W1, { target := .fn (.func gf) #[pt Bs 0], args := #[.func (.yield l) #[] #[]] }, W1, gf, #[.func (.yield l) #[] #[], pt Bs 0], W1, ?_, ?_, ?_, ?_, fun _ => by omega, ?_⟩
  · rw [← hW1, hrec, hl]; exact run_enterLoop_outer _ _ _ _ _
  · simp only [resolve, rangeCall, heg]
    simp [go_sem, heg]
  · intro f' _; trivial
  · simp [invoke, go_sem, run_call eg]
  · rw [← hl] at hL1
    refine (hseq W1 hCW l (fun rest W => ∃ m, J0 rest m ∧ Cls w [] m W ∧ W.heap[l]? = some (.loop (rec .ready none)) ∧ W.heap[w1.heap.size]? = some (.deferred (some []))) W1 (KpB.refl _ _ _) ?_ ⟨m0, h0, hCW, hL1, hK1⟩).mono ?_
    · rintro x rest W i ⟨m, hj, hcl, hlW, hkW⟩
      have hmc := (hc0 _ _ hj).1
      have hy1 := run_yield (P := P) (args := #[.int .i64 i, ev x]) hlW (by rw [hrec]; rfl)
      rw [hrec] at hy1
      refine ⟨fn', _, assign, bd, hy1, roundIn_of_wpIn hfn ?_⟩
      have hslots : Slots n ((p2, ev x) :: (p1, .int .i64 i) :: fs) { tmps := (a.tmps.setIfInBounds p1 (.int .i64 i)).setIfInBounds p2 (ev x), defers := [] } := by
        have := (hs.put hp1 (.int .i64 i)).put hp2 (ev x)
        simp only [Act.put] at this
        rw [hs.defers] at this
        exact this
      have hG := ha l x rest i m hj W (m.flatMap As.foot) noOut_KN _ W hslots hcl.restart
      refine wpIn_mono (by simpa using hG) ?_
      rintro e a1 Wa ⟨a0, h00, rfl, hKK⟩
      cases e with
      | normal =>
        obtain ⟨gs, m1, hj1, hs1, hca⟩ := hKK
        have hmc1 := hc1 _ _ _ _ hj1
        have hla : Wa.heap[l]? = some (.loop (rec .ready none)) := (hca.old l (Array.getElem?_eq_some_iff.1 hlW).1 (not_foot hcl hmc hlW rfl)).trans hlW
        have hka : Wa.heap[w1.heap.size]? = some (.deferred (some [])) := (hca.old _ (Array.getElem?_eq_some_iff.1 hkW).1 (not_foot hcl hmc hkW rfl)).trans hkW
        have hcwa : Cls w [] m1 Wa := hcl.chain hca (fun b hb => .inl hb)
        refine ⟨_, run_beginRound hla (by rw [hrec]), ?_⟩
        obtain ⟨Wb, hWb⟩ : ∃ Wb, Wa.putObj l (.loop { rec .ready none with state := .busy }) = Wb := ⟨_, rfl⟩
        rw [hWb]
        have hlb : Wb.heap[l]? = some (.loop { rec .ready none with state := .busy }) := by rw [← hWb]; exact World.putObj_heap_same (Array.getElem?_eq_some_iff.1 hla).1
        have hkb : Wb.heap[w1.heap.size]? = some (.deferred (some [])) := by rw [← hWb]; exact (World.putObj_heap_other (by omega)).trans hka
        have hcwb : Cls w [] m1 Wb := by
          rw [← hWb]
          exact hcwa.grewB hz hmc1 (grownBy_putObj' Wa l _) (fun r e => by cases e; exact ⟨by omega, _, hla, rfl⟩)
        have hG2 := hb l x rest gs m1 hj1 Wb (m1.flatMap As.foot) noOut_KN a0 Wb hs1 hcwb.restart
        refine wpIn_mono hG2 ?_
        rintro e a3 Wc ⟨a4, _, rfl, hKK⟩
        cases e with
        | normal =>
          obtain ⟨m2, hj2, hcc⟩ := hKK
          have hmc2 := (hc0 _ _ hj2).1
          have hlc : Wc.heap[l]? = some (.loop { rec .ready none with state := .busy }) := (hcc.old l (Array.getElem?_eq_some_iff.1 hlb).1 (not_foot hcwb hmc1 hlb rfl)).trans hlb
          have hkc : Wc.heap[w1.heap.size]? = some (.deferred (some [])) := (hcc.old _ (Array.getElem?_eq_some_iff.1 hkb).1 (not_foot hcwb hmc1 hkb rfl)).trans hkb
          have hcwc : Cls w [] m2 Wc := hcwb.chain hcc (fun b hb => .inl hb)
          have hend := run_endRound (P := P) none hlc
          obtain ⟨Wd, hWd⟩ : ∃ Wd, Wc.putObj l (.loop (rec .ready none)) = Wd := ⟨_, rfl⟩
          have hcwd : Cls w [] m2 Wd := by
            rw [← hWd]
            exact hcwc.grewB hz hmc2 (grownBy_putObj' Wc l _) (fun r e => by cases e; exact ⟨by omega, _, hlc, rfl⟩)
          refine ⟨.bool true, Wd, ?_, rfl, ⟨m2, hj2, hcwd, ?_, ?_⟩, ⟨fun k hk => ?_, ?_⟩⟩
          · rw [hend, ← hWd, hrec]; rfl
          · rw [← hWd]; exact World.putObj_heap_same (Array.getElem?_eq_some_iff.1 hlc).1
          · rw [← hWd]; exact (World.putObj_heap_other (by omega)).trans hkc
          · rw [hcwd.old k hk (by simp), hcl.old k hk (by simp)]
          · have e1 : (As.obj Bs [sv] eb).holds W := hcl.get (hc0 _ _ hj).2
            have e2 : (As.obj Bs [sv] eb).holds Wd := hcwd.get (hc0 _ _ hj2).2
            exact Eq.trans (show Wd.heap[Bs]? = _ from e2) (show W.heap[Bs]? = _ from e1).symm
        | _ => exact hKK.elim
      | _ => exact hKK.elim
    · rintro e W2 ⟨⟨v, rfl⟩, m2, hj, hcl, hlW, hkW⟩
      have hmc := (hc0 _ _ hj).1
      have hend := run_endLoop (P := P) hlW (by rw [hrec]; simp)
      obtain ⟨W3, hW3⟩ : ∃ W3, W2.putObj l (.loop { rec .ready none with state := .exhausted }) = W3 := ⟨_, rfl⟩
      have hcw : Cls w [] m2 W3 := by
        rw [← hW3]
        exact hcl.grewB hz hmc (grownBy_putObj' W2 l _) (fun r e => by cases e; exact ⟨by omega, _, hlW, rfl⟩)
      have hk3 : W3.heap[w1.heap.size]? = some (.deferred (some [])) := by rw [← hW3]; exact (World.putObj_heap_other (by omega)).trans hkW
      refine ⟨none, W3, by rw [hend, ← hW3, hrec], ?_⟩
      have hq : NoOut (postM P fn w1.heap.size (R0 W3 (w1.heap.size :: m2.flatMap As.foot) R)) := fun ⟨_, _, h⟩ => h
      have hG := hy w1.heap.size m2 hj W3 (m2.flatMap As.foot) hk3 (not_foot hcw hmc hk3 rfl) hq a W3 hs hcw.restart
      show y.wp P _ { a with defers := [{ target := .collected w1.heap.size, args := #[] }] ++ a.defers } W3
      rw [hs.defers]
      refine wp_mono (wpIn_wide.1 hG) ?_
      rintro e a' W' ⟨a0, h00, rfl, h⟩
      cases e with
      | ret =>
        obtain ⟨hk', u, hr, u', m', hu, hR, hcl'⟩ := h
        show LeavesInM Fence.wide 9 P fn a0.tmps _ [{ target := .collected w1.heap.size, args := #[] }] .returning W'
        refine ⟨by simp, .inl ⟨w1.heap.size, _, rfl, run_takeDeferred hk', u, hr, u', m', hu, hR, hcw.chain hcl' (fun b hb => ?_)⟩⟩
        rcases List.mem_cons.1 hb with rfl | hb
        · exact .inr hsz
        · exact .inl hb
      | _ => exact h.elim
end
end Go.S
