/-
  slices.Backward of records: what it hands over.
  Conditions: none.
-/
import Derived.Test.YtfmgjigdebofaaaRdM
import Derived.Test.YtfmgjigdebofaaaRk
import Derived.Test.YtfmgjigdebofaaaChecked
import Derived.KernelRfl
namespace Go.Proofs.Ytfmgjigdebofaaa
open Go.S
set_option linter.unusedVariables false
set_option linter.unusedSimpArgs false
theorem KpB_at {w W : World} {Bs : Nat} {v : Value} {k : Nat} {rows : List (List Value)} (hA : At w v k rows) (h : ∀ k, k < w.heap.size → W.heap[k]? = w.heap[k]?) : At W v k rows := by
  refine ⟨hA.shape, hA.len, fun i r j x h1 h2 => ?_⟩
  have hc := hA.cell i r j x h1 h2
  rw [World.cell?_of_block (w := w)]
  · exact hc
  · exact h _ (World.block_lt_of_cell? w _ hc)
theorem cellsOf_agg (l : List Value) : (Value.agg l.toArray).cells.toList = l := by simp [Value.cells]
set_option maxRecDepth 100000 in
set_option maxHeartbeats 4000000 in
theorem back149 {w W0 : World} {sv : Value} {xs : List TRec} {Bs ib : Nat} {m : List As} {eb : TypeId} (hA : At w sv 5 (xs.map TRec.row)) (hc : Cls w [] m W0) (hb : m[ib]? = some (.obj Bs [sv] eb)) (hl : xs.length ≤ 1000000000) :
    HandsOver Try.prog 149 Bs w.heap.size (fun x => .agg (TRec.row x).toArray) xs.reverse W0 := by
  intro l J W hk hY hJ
  have hbx : W0.heap[Bs]? = some (.cells #[sv] eb (0, 0)) := hc.get hb
  have box : ∀ W', KpB w.heap.size Bs W0 W' → W'.cell? ⟨Bs, 0, none⟩ = some sv := by
    intro W' hk'
    have : W'.heap[Bs]? = some (.cells #[sv] eb (0, 0)) := hk'.box.trans hbx
    simp [World.cell?, this]
  have hat : ∀ W', KpB w.heap.size Bs W0 W' → At W' sv 5 (xs.map TRec.row) := fun W' hk' => KpB_at (Bs := Bs) hA (fun k hk2 => (hk'.low k hk2).trans (hc.old k hk2 (by simp)))
  refine bodyG (n := 19) (vs := [.func (.yield l) #[] #[], pt Bs 0]) (C := fun W' => J xs.reverse W' ∧ KpB w.heap.size Bs W0 W') Try.func149 rfl rfl rfl ⟨hJ, hk⟩ (fun w h => by obtain ⟨⟨v, h⟩, _⟩ := h; cases h) ?_
  refine G.seq (G.region .flat rfl ?_)
  refine L.y rfl (Y.load1 (by kernel_rfl) rfl (fun W' hw => box W' hw.2)) ?_
  refine L.y rfl (Y.lenM (g := TRec.row) (l := xs) Try.underlying85 rfl (fun W' hw => hat W' hw.2)) ?_
  refine L.y rfl (Y.subM rfl rfl ((xs.length : Int) - 1) (i64_ok (by omega) (by omega))) ?_
  refine L.y rfl (Y.assign rfl) ?_
  refine L.nil (E.thenG (G.block ?_))
  refine G.loopJ (fun mm gs D => mm ≤ xs.length ∧ gs = [(0, .func (.yield l) #[] #[]), (1, pt Bs 0), (3, .int .i64 ((mm : Int) - 1))] ∧ D = fun W' => J (xs.take mm).reverse W' ∧ KpB w.heap.size Bs W0 W') (m0 := xs.length) ⟨Nat.le_refl _, rfl, rfl⟩ ⟨rfl, rfl, rfl, trivial⟩ (fun W' hw => by rw [List.take_length]; exact hw) ?_
  rintro mm _ _ ⟨hmm, rfl, rfl⟩
  refine G.seq (G.seq (G.region .flat rfl ?_))
  refine L.y rfl (Y.move rfl) ?_
  rcases Nat.eq_zero_or_pos mm with rfl | hpos
  · have e : decide ((0 : Int) ≤ ((0 : Nat) : Int) - 1) = false := by decide
    refine L.y (v := .bool false) rfl (by rw [← e]; exact Y.geq rfl rfl) ?_
    refine L.nil (E.thenG (G.condF rfl (G.exit ?_)))
    exact E.thenGX (E.KLX (E.blockX (E.end0 rfl (fun w1 hw1 => ⟨⟨_, rfl⟩, hw1.1⟩))))
  · obtain ⟨i, rfl⟩ : ∃ i, mm = i + 1 := ⟨mm - 1, by omega⟩
    have hix : i < xs.length := by omega
    have e : decide ((0 : Int) ≤ ((i + 1 : Nat) : Int) - 1) = true := decide_eq_true (by omega)
    have e1 : ((i + 1 : Nat) : Int) - 1 = (i : Int) := by omega
    refine L.y (v := .bool true) rfl (by rw [← e]; exact Y.geq rfl rfl) ?_
    refine L.nil (E.thenG (G.condT rfl (G.skip (E.thenG (G.seq (G.block (G.seq ?_)))))))
    have hrv : (xs.take (i + 1)).reverse = xs[i] :: (xs.take i).reverse := by rw [List.take_succ_eq_append_getElem hix]; simp
    refine G.yieldR (l1 := [_, _, _, _, _, _]) (l2 := [_]) (l := l) (v1 := .int .i64 (i : Int)) (v2 := .agg (TRec.row xs[i]).toArray) (D := fun W' => J (xs.take i).reverse W' ∧ KpB w.heap.size Bs W0 W')
      (gs := [(16, .agg (TRec.row xs[i]).toArray), (15, el sv (i * 5)), (14, .int .i64 (i : Int)), (13, sv), (12, .int .i64 (i : Int)), (11, .func (.yield l) #[] #[]), (0, .func (.yield l) #[] #[]), (1, pt Bs 0), (3, .int .i64 (i : Int))]) rfl rfl ?_ rfl rfl rfl rfl ?_ ?_
    · rw [e1]
      refine L.y rfl (Y.move rfl) ?_
      refine L.y rfl (Y.move rfl) ?_
      refine L.y rfl (Y.load1 (by kernel_rfl) rfl (fun W' hw => box W' hw.2)) ?_
      refine L.y rfl (Y.move rfl) ?_
      refine L.y rfl (Y.indexM (g := TRec.row) (l := xs) Try.underlying85 (by kernel_rfl) rfl rfl (fun W' hw => hat W' hw.2) xs[i] (idx_ok hix)) ?_
      refine L.y rfl (Y.loadEN (r := TRec.row xs[i]) (i := i) (by kernel_rfl) (by kernel_rfl) rfl (fun W' hw => hat W' hw.2) (by rw [List.getElem?_map, List.getElem?_eq_getElem hix]; rfl) rfl) ?_
      refine L.nil fun a W' hs hw => ⟨hs.sub ?_, hw⟩
      exact ⟨rfl, rfl, rfl, rfl, rfl, rfl, rfl, rfl, rfl, trivial⟩
    · intro W' hw
      have := hY xs[i] (xs.take i).reverse W' (i : Int) (by rw [← hrv]; exact hw.1)
      obtain ⟨fn, tmps, assign, body, h1, h2⟩ := this
      exact ⟨fn, tmps, assign, body, h1, h2.mono fun e W'' ⟨h3, h4, h5⟩ => ⟨h3, h4, hw.2.trans h5⟩⟩
    · refine L.y rfl (Y.not rfl) ?_
      refine L.nil (E.thenG (G.condF rfl (G.skip (E.blockN (E.thenG (G.region .flat rfl ?_))))))
      refine L.y rfl (Y.move rfl) ?_
      refine L.y rfl (Y.subM rfl rfl ((i : Int) - 1) (i64_ok (by omega) (by omega))) ?_
      refine L.y rfl (Y.assign rfl) ?_
      refine L.nil (E.againJ (m' := i) ⟨by omega, rfl, rfl⟩ (Nat.lt_succ_self _) ⟨rfl, rfl, rfl, trivial⟩ (fun _ hw => hw))
end Go.Proofs.Ytfmgjigdebofaaa
