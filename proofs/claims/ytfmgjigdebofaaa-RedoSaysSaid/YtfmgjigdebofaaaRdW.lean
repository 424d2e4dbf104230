/-
  Walks, printed by a program of mine.
  Conditions: none.
-/
import Derived.Test.YtfmgjigdebofaaaRdM
import Derived.Test.YtfmgjigdebofaaaChecked
import Derived.KernelRfl
import Derived.Test.YtfmgjigdebofaaaRdB
namespace Go.Proofs.Ytfmgjigdebofaaa
open Go.S
set_option linter.unusedVariables false
set_option linter.unusedSimpArgs false
theorem mixed : Try.prog.follows .mixedOrders = true := by kernel_rfl
theorem ag3 : aggB Try.prog 3 false = true := by kernel_rfl
theorem ag4 : aggB Try.prog 4 false = true := by kernel_rfl
theorem ag76 : aggB Try.prog 76 true = true := by kernel_rfl
theorem ag85 : aggB Try.prog 85 false = true := by kernel_rfl
theorem ag88 : aggB Try.prog 88 true = true := by kernel_rfl
theorem ag99 : aggB Try.prog 99 true = true := by kernel_rfl
theorem ag167 : aggB Try.prog 167 true = true := by kernel_rfl
theorem el99 : elemB Try.prog 99 5 40 = true := by kernel_rfl
theorem en57 : entB Try.prog 57 = true := by kernel_rfl
theorem en58 : entB Try.prog 58 = true := by kernel_rfl
theorem en59 : entB Try.prog 59 = true := by kernel_rfl
theorem en60 : entB Try.prog 60 = true := by kernel_rfl
theorem en61 : entB Try.prog 61 = true := by kernel_rfl
theorem en62 : entB Try.prog 62 = true := by kernel_rfl
theorem en63 : entB Try.prog 63 = true := by kernel_rfl
theorem en112 : entB Try.prog 112 = true := by kernel_rfl
theorem en113 : entB Try.prog 113 = true := by kernel_rfl
theorem en114 : entB Try.prog 114 = true := by kernel_rfl
theorem en115 : entB Try.prog 115 = true := by kernel_rfl
theorem en116 : entB Try.prog 116 = true := by kernel_rfl
theorem en149 : entB Try.prog 149 = true := by kernel_rfl
theorem en150 : entB Try.prog 150 = true := by kernel_rfl
theorem en151 : entB Try.prog 151 = true := by kernel_rfl
theorem en162 : entB Try.prog 162 = true := by kernel_rfl
theorem fd87_0 : fieldB Try.prog 87 0 0 = true := by kernel_rfl
theorem fd87_1 : fieldB Try.prog 87 1 1 = true := by kernel_rfl
theorem fd99_0 : fieldB Try.prog 99 0 0 = true := by kernel_rfl
theorem fd99_1 : fieldB Try.prog 99 1 1 = true := by kernel_rfl
theorem fd99_2 : fieldB Try.prog 99 2 2 = true := by kernel_rfl
theorem fd99_3 : fieldB Try.prog 99 3 3 = true := by kernel_rfl
theorem fd99_4 : fieldB Try.prog 99 4 4 = true := by kernel_rfl
theorem sz3 : szB Try.prog 3 1 = true := by kernel_rfl
theorem sz4 : szB Try.prog 4 1 = true := by kernel_rfl
theorem sz76 : szB Try.prog 76 20 = true := by kernel_rfl
theorem sz85 : szB Try.prog 85 1 = true := by kernel_rfl
theorem sz87 : szB Try.prog 87 2 = true := by kernel_rfl
theorem sz88 : szB Try.prog 88 40 = true := by kernel_rfl
theorem sz99 : szB Try.prog 99 5 = true := by kernel_rfl
theorem sz167 : szB Try.prog 167 12 = true := by kernel_rfl
theorem ze76 : zeroB Try.prog 76 = some (List.replicate 20 (.int .i64 0)) := by kernel_rfl
theorem ze85 : zeroB Try.prog 85 = some [.slice none 0 0] := by kernel_rfl
theorem ze88 : zeroB Try.prog 88 = some [.int .i64 0, .int .i64 0, .int .i64 0, .int .i64 0, .int .i64 0, .int .i64 0, .int .i64 0, .int .i64 0, .int .i64 0, .int .i64 0, .int .i64 0, .int .i64 0, .int .i64 0, .int .i64 0, .int .i64 0, .int .i64 0, .int .i64 0, .int .i64 0, .int .i64 0, .int .i64 0, .int .i64 0, .int .i64 0, .int .i64 0, .int .i64 0, .int .i64 0, .int .i64 0, .int .i64 0, .int .i64 0, .int .i64 0, .int .i64 0, .int .i64 0, .int .i64 0, .int .i64 0, .int .i64 0, .int .i64 0, .int .i64 0, .int .i64 0, .int .i64 0, .int .i64 0, .int .i64 0] := by kernel_rfl
theorem ze99 : zeroB Try.prog 99 = some [.int .i64 0, .int .i64 0, .int .i64 0, .int .i64 0, .int .i64 0] := by kernel_rfl
theorem ze167 : zeroB Try.prog 167 = some (List.replicate 12 (.bool false)) := by kernel_rfl
theorem plain_TRec (l : List TRec) : Plain (l.map TRec.row) := by
  intro r hr u hu
  obtain ⟨x, _, rfl⟩ := List.mem_map.1 hr
  simp only [TRec.row, List.mem_cons, List.not_mem_nil, or_false] at hu
  rcases hu with rfl | rfl | rfl | rfl | rfl <;> rfl
theorem plain_TPage (l : List TPage) : Plain (l.map TPage.row) := by
  intro r hr u hu
  obtain ⟨x, _, rfl⟩ := List.mem_map.1 hr
  simp only [TPage.row, List.mem_cons, List.not_mem_nil, or_false] at hu
  rcases hu with rfl | rfl <;> rfl
theorem eg99 : Try.prog.eqGuardType Try.prog.depth 99 = false := by kernel_rfl
theorem sh99 (x : TRec) : shB Try.prog 5 99 x.row = true := by kernel_rfl
theorem inj99 (x y : TRec) (h : x.row = y.row) : x = y := by
  cases x; cases y
  simpa [TRec.row, st_inj] using h
theorem egA88 : Try.prog.eqGuardType Try.prog.depth 88 = false := by kernel_rfl
theorem isA88 : (Try.prog.info? 87).isSome = true := by kernel_rfl
theorem hrA88 (z : TPage) : (TPage.row z).length = Try.prog.cellsOf 87 := by kernel_rfl
theorem shA88 (z : TPage) : shB Try.prog 4 87 (TPage.row z) = true := by kernel_rfl
theorem injA88 (x y : TPage) (h : TPage.row x = TPage.row y) : x = y := by
  cases x; cases y
  simpa [TPage.row, st_inj] using h
set_option maxRecDepth 100000 in
set_option maxHeartbeats 8000000 in
theorem w116_quirref_ended (a0 : (List TRec)) (a1 : Int) (u0 : Value) (w : World) (r : Bool) (h : m116_quirref_ended a0 a1 = some r) (hA0 : At w u0 5 (a0.map TRec.row)) : Does Try.prog 116 [u0, .int .i64 a1] w fun u m => u = .bool r ∧ m = [] := by
  rw [m116_quirref_ended] at h
  refine body (n := 8) Try.func116 rfl rfl rfl (Cls.refl w) ?_
  refine W.seq (W.region (L.box rfl rfl ?_))
  intro b1
  refine L.y rfl (Y.assign rfl) ?_
  refine L.nil (E.thenN (W.seq (W.region (L.y rfl (Y.move rfl) ?_))))
  refine L.y rfl (Y.func rfl) ?_
  refine L.callJ (fun v D => ∃ (gb1 : Bool), v = .bool gb1 ∧ D = Cls w [] [] ∧ m116_quirref_ended_K1 gb1 = some r) rfl en150 rfl Try.func150 rfl rfl rfl ?_ ?_
  ·
   refine W.seq (W.region (L.y rfl (Y.assign rfl) ?_))
   refine L.nil (E.thenN (W.seq (W.region (L.y rfl (Y.move rfl) ?_))))
   refine L.y rfl (Y.move rfl) ?_
   refine L.callJ (fun v D => ∃ (gx2 : Int), v = .int .i64 gx2 ∧ D = Cls w [] [] ∧ m116_quirref_ended_K2 gx2 = some r) rfl en162 rfl Try.func162 rfl rfl rfl ?_ ?_
   ·
    refine W.seq (W.region (L.y rfl (Y.assign rfl) ?_))
    refine L.nil (E.thenN (W.seqJ (fun gs D => gs = [] ∧ D = Cls w [] [] ∧ m116_quirref_ended_K3 = some r) ?_ ?_))
    ·
     refine W.seq (W.region (L.y rfl (Y.move rfl) ?_))
     refine L.y rfl (Y.lenM (g := TRec.row) (l := a0) Try.underlying85 rfl (fun w' hw => hA0.cls0 hw)) ?_
     refine L.y rfl (Y.move rfl) ?_
     refine L.nil (E.thenN (W.block (W.loopJ (fun m gs D => ∃ (gx3 : Int), gs = [(0, u0), (1, .func (.func 151) #[] #[pt b1 0]), (7, .int .i64 (a0.length : Int)), (8, .int .i64 gx3)] ∧ D = Cls w [] [.obj b1 [.int .i64 a1] 3] ∧ m116_quirref_ended_L1 a0 a1 m gx3 = some r) ⟨0, rfl, rfl, h⟩ ⟨rfl, rfl, rfl, rfl, trivial⟩ (fun _ hw => hw) ?_)))
     rintro m _ _ ⟨gx3, rfl, rfl, h⟩
     rcases m with _ | m
     · rw [m116_quirref_ended_L1] at h; cases h
     rw [m116_quirref_ended_L1] at h
     generalize hg1 : m116_quirref_ended_L1 a0 a1 m = go1 at h
     rw [m116_quirref_ended_L1B] at h
     refine W.seq (W.region (L.ite h rfl (Y.lss rfl rfl) (fun c2 h => ?_) (fun c2 h => ?_)))
     ·
      refine L.nil (E.thenN (W.seq (W.condT rfl ?_)))
      refine W.skip (E.thenN (W.seq (W.block (W.seq (W.region (L.y rfl (Y.move rfl) ?_))))))
      refine L.y rfl (Y.assign rfl) ?_
      refine L.nil (E.thenN (W.seq (W.region (L.y rfl (Y.move rfl) ?_))))
      refine L.y rfl (Y.move rfl) ?_
      refine L.y rfl (Y.move rfl) ?_
      refine L.m (V := fun _ => el u0 (gx3.toNat * 5)) h rfl (Y.indexM (g := TRec.row) (l := a0) Try.underlying85 sz99 rfl rfl (fun w' hw => hA0.cls0 hw)) (fun x3 ex3 h => ?_)
      refine L.y rfl (Y.loadEN (r := [.int .i64 x3.Kind, .int .i64 x3.Tx, .int .i64 x3.Item, .int .i64 x3.Old, .int .i64 x3.New]) ag99 sz99 rfl (fun w' hw => hA0.cls0 hw) (idx_map ex3) rfl) ?_
      refine L.callVJ (fun v D => ∃ (gb4 : Bool), v = .bool gb4 ∧ D = Cls w [] [.obj b1 [.int .i64 a1] 3] ∧ m116_quirref_ended_K4 gx3 go1 gb4 = some r) rfl en151 rfl rfl Try.func151 rfl rfl rfl ?_ ?_
      ·
       refine W.seq (W.region (L.box rfl rfl ?_))
       intro b5
       refine L.y rfl (Y.assign rfl) ?_
       refine L.nil (E.thenN (W.seq (W.region (L.cutJ 14 (fun gs D => ∃ (gb5 : Bool), gs = [(17, .bool gb5)] ∧ D = Cls w [] [.obj b1 [.int .i64 a1] 3] ∧ m116_quirref_ended_K5 gx3 go1 gb5 = some r) ?_ ?_))))
       ·
        refine L.y rfl (Y.fieldP fd99_1 rfl) ?_
        refine L.y rfl (Y.loadP (i := 0) ag3 rfl rfl rfl) ?_
        refine L.y rfl (Y.loadP (i := 1) ag3 rfl rfl rfl) ?_
        refine L.ite h rfl (Y.eql rfl rfl) (fun c6 h => ?_) (fun c6 h => ?_)
        ·
         refine L.y rfl (Y.move rfl) ?_
         refine L.take rfl (L.y rfl (Y.fieldP fd99_0 rfl) ?_)
         refine L.take rfl (L.y rfl (Y.loadP (i := 0) ag3 rfl rfl rfl) ?_)
         refine L.take rfl (L.ite h rfl (Y.eql rfl rfl) (fun c7 h => ?_) (fun c7 h => ?_))
         ·
          refine L.take rfl (L.y rfl (Y.move rfl) ?_)
          refine L.pass rfl rfl (by nofun) ?_
          refine L.pass rfl rfl (by nofun) ?_
          refine L.pass rfl rfl (by nofun) ?_
          refine L.take rfl (L.y rfl (Y.pickT rfl rfl) ?_)
          refine L.y rfl (Y.pickT rfl rfl) ?_
          exact L.nil (E.joinJ ⟨true, rfl, rfl, h⟩ ⟨rfl, trivial⟩ (fun _ hw => hw.sel [1] (by decide) rfl))
         ·
          refine L.take rfl (L.y rfl (Y.move rfl) ?_)
          refine L.take rfl (L.y rfl (Y.fieldP fd99_0 rfl) ?_)
          refine L.take rfl (L.y rfl (Y.loadP (i := 0) ag3 rfl rfl rfl) ?_)
          refine L.take rfl (L.y rfl (Y.eql rfl rfl) ?_)
          refine L.take rfl (L.y rfl (Y.pickF rfl rfl) ?_)
          refine L.y rfl (Y.pickT rfl rfl) ?_
          exact L.nil (E.joinJ ⟨decide (x3.Kind = 3), rfl, rfl, h⟩ ⟨rfl, trivial⟩ (fun _ hw => hw.sel [1] (by decide) rfl))
        ·
         refine L.y rfl (Y.move rfl) ?_
         refine L.pass rfl rfl (by nofun) ?_
         refine L.pass rfl rfl (by nofun) ?_
         refine L.pass rfl rfl (by nofun) ?_
         refine L.pass rfl rfl (by nofun) ?_
         refine L.pass rfl rfl (by nofun) ?_
         refine L.pass rfl rfl (by nofun) ?_
         refine L.pass rfl rfl (by nofun) ?_
         refine L.pass rfl rfl (by nofun) ?_
         refine L.y rfl (Y.pickF rfl rfl) ?_
         exact L.nil (E.joinJ ⟨false, rfl, rfl, h⟩ ⟨rfl, trivial⟩ (fun _ hw => hw.sel [1] (by decide) rfl))
       ·
        rintro _ _ ⟨gb5, rfl, rfl, h⟩
        rw [m116_quirref_ended_K5] at h
        refine L.y rfl (Y.assign rfl) ?_
        refine L.nil (E.thenN (W.ret (E.ret1 rfl rfl (fun w1 hw => ?_))))
        exact ⟨_, _, rfl, ⟨gb5, rfl, rfl, h⟩, hw⟩
      ·
       rintro _ _ ⟨gb4, rfl, rfl, h⟩
       rw [m116_quirref_ended_K4] at h
       rcases gb4 with _ | _
       ·
        replace h := iteF h
        refine L.nil (E.thenN (W.condF rfl ?_))
        refine W.skip (E.blockN (E.thenN (W.region (L.m (V := fun x4 => .int .i64 x4) h rfl (Y.addM rfl rfl) (fun x4 ex4 h => ?_)))))
        refine L.y rfl (Y.move rfl) ?_
        exact L.nil (E.againJ ⟨x4, rfl, rfl, by rw [hg1]; exact h⟩ (Nat.lt_succ_self _) ⟨rfl, rfl, rfl, rfl, trivial⟩ (fun _ hw => hw))
       ·
        replace h := iteT h
        refine L.nil (E.thenN (W.condT rfl ?_))
        refine W.seq (W.region (L.y rfl (Y.move rfl) ?_))
        refine L.y rfl (Y.assign rfl) ?_
        refine L.nil (E.thenN (W.ret (E.blockR (E.thenR (E.KLR (E.blockR (E.KSR (E.ret1 rfl rfl (fun w1 hw => ?_)))))))))
        exact ⟨_, _, rfl, ⟨gx3, rfl, rfl, h⟩, hw.sel [] (by decide) rfl⟩
     ·
      refine L.nil (E.thenN (W.seq (W.condF rfl ?_)))
      exact W.exit (E.thenX (E.KLX (E.blockX (E.joinJ ⟨rfl, rfl, h⟩ trivial (fun _ hw => hw.sel [] (by decide) rfl)))))
    ·
     rintro _ _ ⟨rfl, rfl, h⟩
     rw [m116_quirref_ended_K3] at h
     refine W.seq (W.region (L.y rfl (Y.assign rfl) ?_))
     refine L.nil (E.thenN (W.ret (E.ret1 rfl rfl (fun w1 hw => ?_))))
     exact ⟨_, _, rfl, ⟨(-1), rfl, rfl, h⟩, hw⟩
   ·
    rintro _ _ ⟨gx2, rfl, rfl, h⟩
    rw [m116_quirref_ended_K2] at h
    refine L.y rfl (Y.geq rfl rfl) ?_
    refine L.y rfl (Y.assign rfl) ?_
    refine L.nil (E.thenN (W.ret (E.ret1 rfl rfl (fun w1 hw => ?_))))
    exact ⟨_, _, rfl, ⟨decide (0 ≤ gx2), rfl, rfl, h⟩, hw⟩
  ·
   rintro _ _ ⟨gb1, rfl, rfl, h⟩
   rw [m116_quirref_ended_K1] at h
   refine L.y rfl (Y.assign rfl) ?_
   refine L.nil (E.thenN (W.ret (E.ret1 rfl rfl (fun w1 hw => ?_))))
   obtain rfl := Option.some.inj h
   exact ⟨_, _, rfl, ⟨rfl, rfl⟩, hw⟩
set_option maxRecDepth 100000 in
set_option maxHeartbeats 8000000 in
theorem w115_quirref_lastUpdate (a0 : (List TRec)) (a1 : Int) (u0 : Value) (w : World) (r : Int) (h : m115_quirref_lastUpdate a0 a1 = some r) (hA0 : At w u0 5 (a0.map TRec.row)) : Does Try.prog 115 [u0, .int .i64 a1] w fun u m => u = .int .i64 r ∧ m = [] := by
  rw [m115_quirref_lastUpdate] at h
  refine body (n := 29) Try.func115 rfl rfl rfl (Cls.refl w) ?_
  refine W.seq (W.region (L.y rfl (Y.assign rfl) ?_))
  refine L.nil (E.thenN (W.seqJ (fun gs D => gs = [] ∧ D = Cls w [] [] ∧ m115_quirref_lastUpdate_K1 = some r) ?_ ?_))
  ·
   refine W.seq (W.region (L.y rfl (Y.move rfl) ?_))
   refine L.y rfl (Y.lenM (g := TRec.row) (l := a0) Try.underlying85 rfl (fun w' hw => hA0.cls0 hw)) ?_
   refine L.m (V := fun x1 => .int .i64 x1) h rfl (Y.subM rfl rfl) (fun x1 ex1 h => ?_)
   refine L.y rfl (Y.assign rfl) ?_
   refine L.nil (E.thenN (W.block (W.loopJ (fun m gs D => ∃ (gx1 : Int), gs = [(0, u0), (1, .int .i64 a1), (5, .int .i64 gx1)] ∧ D = Cls w [] [] ∧ m115_quirref_lastUpdate_L1 a0 a1 m gx1 = some r) ⟨x1, rfl, rfl, h⟩ ⟨rfl, rfl, rfl, trivial⟩ (fun _ hw => hw) ?_)))
   rintro m _ _ ⟨gx1, rfl, rfl, h⟩
   rcases m with _ | m
   · rw [m115_quirref_lastUpdate_L1] at h; cases h
   rw [m115_quirref_lastUpdate_L1] at h
   generalize hg1 : m115_quirref_lastUpdate_L1 a0 a1 m = go1 at h
   rw [m115_quirref_lastUpdate_L1B] at h
   refine W.seqJ (fun gs D => gs = [(0, u0), (1, .int .i64 a1), (5, .int .i64 gx1)] ∧ D = Cls w [] [] ∧ m115_quirref_lastUpdate_K2 a0 gx1 a1 go1 = some r) ?_ ?_
   ·
    refine W.seq (W.region (L.y rfl (Y.move rfl) ?_))
    refine L.ite h rfl (Y.geq rfl rfl) (fun c8 h => ?_) (fun c8 h => ?_)
    ·
     refine L.nil (E.thenN (W.condT rfl ?_))
     exact W.skip (E.joinJ ⟨rfl, rfl, h⟩ ⟨rfl, rfl, rfl, trivial⟩ (fun _ hw => hw))
    ·
     refine L.nil (E.thenN (W.condF rfl ?_))
     exact W.exit (E.KSX (E.KLX (E.blockX (E.joinJ ⟨rfl, rfl, h⟩ trivial (fun _ hw => hw)))))
   ·
    rintro _ _ ⟨rfl, rfl, h⟩
    rw [m115_quirref_lastUpdate_K2] at h
    refine W.seq (W.block (W.seq (W.region (L.y rfl (Y.move rfl) ?_))))
    refine L.y rfl (Y.move rfl) ?_
    refine L.m (V := fun _ => el u0 (gx1.toNat * 5)) h rfl (Y.indexM (g := TRec.row) (l := a0) Try.underlying85 sz99 rfl rfl (fun w' hw => hA0.cls0 hw)) (fun x2 ex2 h => ?_)
    refine L.y rfl (Y.fieldE fd99_0 rfl) ?_
    refine L.y rfl (Y.loadE (u := .int .i64 x2.Kind) ag3 rfl (fun w' hw => hA0.cls0 hw) (idx_map ex2) rfl) ?_
    refine L.ite h rfl (Y.eql rfl rfl) (fun c3 h => ?_) (fun c3 h => ?_)
    ·
     refine L.y rfl (Y.move rfl) ?_
     refine L.take rfl (L.y rfl (Y.move rfl) ?_)
     refine L.take rfl (L.y rfl (Y.move rfl) ?_)
     refine L.take rfl (L.m (V := fun _ => el u0 (gx1.toNat * 5)) h rfl (Y.indexM (g := TRec.row) (l := a0) Try.underlying85 sz99 rfl rfl (fun w' hw => hA0.cls0 hw)) (fun x4 ex4 h => ?_))
     refine L.take rfl (L.y rfl (Y.fieldE fd99_2 rfl) ?_)
     refine L.take rfl (L.y rfl (Y.loadE (u := .int .i64 x4.Item) ag3 rfl (fun w' hw => hA0.cls0 hw) (idx_map ex4) rfl) ?_)
     refine L.take rfl (L.y rfl (Y.move rfl) ?_)
     refine L.take rfl (L.ite h rfl (Y.eql rfl rfl) (fun c5 h => ?_) (fun c5 h => ?_))
     ·
      refine L.y rfl (Y.pickT rfl rfl) ?_
      refine L.nil (E.thenN (W.condT rfl ?_))
      refine W.seq (W.region (L.y rfl (Y.move rfl) ?_))
      refine L.y rfl (Y.assign rfl) ?_
      refine L.nil (E.thenN (W.ret (E.blockR (E.thenR (E.KLR (E.blockR (E.KSR (E.ret1 rfl rfl (fun w1 hw => ?_)))))))))
      obtain rfl := Option.some.inj h
      exact ⟨_, _, rfl, ⟨rfl, rfl⟩, hw⟩
     ·
      refine L.y rfl (Y.pickT rfl rfl) ?_
      refine L.nil (E.thenN (W.condF rfl ?_))
      refine W.skip (E.blockN (E.thenN (W.region (L.y rfl (Y.move rfl) ?_))))
      refine L.m (V := fun x6 => .int .i64 x6) h rfl (Y.subM rfl rfl) (fun x6 ex6 h => ?_)
      refine L.y rfl (Y.assign rfl) ?_
      exact L.nil (E.againJ ⟨x6, rfl, rfl, by rw [hg1]; exact h⟩ (Nat.lt_succ_self _) ⟨rfl, rfl, rfl, trivial⟩ (fun _ hw => hw))
    ·
     refine L.y rfl (Y.move rfl) ?_
     refine L.pass rfl rfl (by nofun) ?_
     refine L.pass rfl rfl (by nofun) ?_
     refine L.pass rfl rfl (by nofun) ?_
     refine L.pass rfl rfl (by nofun) ?_
     refine L.pass rfl rfl (by nofun) ?_
     refine L.pass rfl rfl (by nofun) ?_
     refine L.pass rfl rfl (by nofun) ?_
     refine L.y rfl (Y.pickF rfl rfl) ?_
     refine L.nil (E.thenN (W.condF rfl ?_))
     refine W.skip (E.blockN (E.thenN (W.region (L.y rfl (Y.move rfl) ?_))))
     refine L.m (V := fun x7 => .int .i64 x7) h rfl (Y.subM rfl rfl) (fun x7 ex7 h => ?_)
     refine L.y rfl (Y.assign rfl) ?_
     exact L.nil (E.againJ ⟨x7, rfl, rfl, by rw [hg1]; exact h⟩ (Nat.lt_succ_self _) ⟨rfl, rfl, rfl, trivial⟩ (fun _ hw => hw))
  ·
   rintro _ _ ⟨rfl, rfl, h⟩
   rw [m115_quirref_lastUpdate_K1] at h
   refine W.seq (W.region (L.y rfl (Y.assign rfl) ?_))
   refine L.nil (E.thenN (W.ret (E.ret1 rfl rfl (fun w1 hw => ?_))))
   obtain rfl := Option.some.inj h
   exact ⟨_, _, rfl, ⟨rfl, rfl⟩, hw⟩
set_option maxRecDepth 100000 in
set_option maxHeartbeats 8000000 in
theorem w112_quirref_recErr (a0 : (List TRec)) (a1 : Int) (u0 : Value) (w : World) (r : Int) (h : m112_quirref_recErr a0 a1 = some r) (hA0 : At w u0 5 (a0.map TRec.row)) : Does Try.prog 112 [u0, .int .i64 a1] w fun u m => u = .int .i64 r ∧ m = [] := by
  rw [m112_quirref_recErr] at h
  refine body (n := 103) Try.func112 rfl rfl rfl (Cls.refl w) ?_
  refine W.seq (W.region (L.y rfl (Y.assign rfl) ?_))
  refine L.nil (E.thenN (W.seq (W.region (L.y rfl (Y.move rfl) ?_))))
  refine L.y rfl (Y.move rfl) ?_
  refine L.m (V := fun _ => el u0 (a1.toNat * 5)) h rfl (Y.indexM (g := TRec.row) (l := a0) Try.underlying85 sz99 rfl rfl (fun w' hw => hA0.cls0 hw)) (fun x1 ex1 h => ?_)
  refine L.y rfl (Y.loadEN (r := [.int .i64 x1.Kind, .int .i64 x1.Tx, .int .i64 x1.Item, .int .i64 x1.Old, .int .i64 x1.New]) ag99 sz99 rfl (fun w' hw => hA0.cls0 hw) (idx_map ex1) rfl) ?_
  refine L.alloc rfl ze99 ?_
  intro b2
  refine L.store (i := 0) (vs := [.int .i64 x1.Kind, .int .i64 x1.Tx, .int .i64 x1.Item, .int .i64 x1.Old, .int .i64 x1.New]) sz99 rfl rfl rfl rfl (by simp [Value.oneCell', Value.cells, st, pt]) rfl (Nat.le_of_ble_eq_true rfl) ?_
  refine L.nil (E.thenN (W.seqJ (fun gs D => gs = [(0, u0), (1, .int .i64 a1), (5, pt b2 0)] ∧ D = Cls w [] [.obj b2 [.int .i64 x1.Kind, .int .i64 x1.Tx, .int .i64 x1.Item, .int .i64 x1.Old, .int .i64 x1.New] 99] ∧ m112_quirref_recErr_K1 a0 a1 x1 = some r) ?_ ?_))
  ·
   refine W.seq (W.region (L.cutJ 8 (fun gs D => ∃ (gb7 : Bool), gs = [(0, u0), (1, .int .i64 a1), (5, pt b2 0), (18, .bool gb7)] ∧ D = Cls w [] [.obj b2 [.int .i64 x1.Kind, .int .i64 x1.Tx, .int .i64 x1.Item, .int .i64 x1.Old, .int .i64 x1.New] 99] ∧ m112_quirref_recErr_K10 x1 a0 a1 gb7 = some r) ?_ ?_))
   ·
    refine L.y rfl (Y.fieldP fd99_1 rfl) ?_
    refine L.y rfl (Y.loadP (i := 0) ag3 rfl rfl rfl) ?_
    refine L.ite h rfl (Y.lss rfl rfl) (fun c28 h => ?_) (fun c28 h => ?_)
    ·
     refine L.y rfl (Y.move rfl) ?_
     refine L.pass rfl rfl (by nofun) ?_
     refine L.pass rfl rfl (by nofun) ?_
     refine L.pass rfl rfl (by nofun) ?_
     refine L.y rfl (Y.pickT rfl rfl) ?_
     exact L.nil (E.joinJ ⟨true, rfl, rfl, h⟩ ⟨rfl, rfl, rfl, rfl, trivial⟩ (fun _ hw => hw))
    ·
     refine L.y rfl (Y.move rfl) ?_
     refine L.take rfl (L.y rfl (Y.fieldP fd99_1 rfl) ?_)
     refine L.take rfl (L.y rfl (Y.loadP (i := 0) ag3 rfl rfl rfl) ?_)
     refine L.take rfl (L.ite h rfl (Y.gtr rfl rfl) (fun c29 h => ?_) (fun c29 h => ?_))
     ·
      refine L.y rfl (Y.pickF rfl rfl) ?_
      exact L.nil (E.joinJ ⟨true, rfl, rfl, h⟩ ⟨rfl, rfl, rfl, rfl, trivial⟩ (fun _ hw => hw))
     ·
      refine L.y rfl (Y.pickF rfl rfl) ?_
      exact L.nil (E.joinJ ⟨false, rfl, rfl, h⟩ ⟨rfl, rfl, rfl, rfl, trivial⟩ (fun _ hw => hw))
   ·
    rintro _ _ ⟨gb7, rfl, rfl, h⟩
    rw [m112_quirref_recErr_K10] at h
    rcases gb7 with _ | _
    ·
     replace h := iteF h
     refine L.y rfl (Y.move rfl) ?_
     refine L.take rfl (L.y rfl (Y.fieldP fd99_2 rfl) ?_)
     refine L.take rfl (L.y rfl (Y.loadP (i := 0) ag3 rfl rfl rfl) ?_)
     refine L.take rfl (L.ite h rfl (Y.lss rfl rfl) (fun c26 h => ?_) (fun c26 h => ?_))
     ·
      refine L.y rfl (Y.pickF rfl rfl) ?_
      refine L.y rfl (Y.move rfl) ?_
      refine L.pass rfl rfl (by nofun) ?_
      refine L.pass rfl rfl (by nofun) ?_
      refine L.pass rfl rfl (by nofun) ?_
      refine L.y rfl (Y.pickT rfl rfl) ?_
      refine L.nil (E.thenN (W.condT rfl ?_))
      refine W.seq (W.region (L.y rfl (Y.assign rfl) ?_))
      refine L.nil (E.thenN (W.ret (E.KSR (E.ret1 rfl rfl (fun w1 hw => ?_)))))
      obtain rfl := Option.some.inj h
      exact ⟨_, _, rfl, ⟨rfl, rfl⟩, hw.sel [] (by decide) rfl⟩
     ·
      refine L.y rfl (Y.pickF rfl rfl) ?_
      refine L.y rfl (Y.move rfl) ?_
      refine L.take rfl (L.y rfl (Y.fieldP fd99_2 rfl) ?_)
      refine L.take rfl (L.y rfl (Y.loadP (i := 0) ag3 rfl rfl rfl) ?_)
      refine L.take rfl (L.ite h rfl (Y.gtr rfl rfl) (fun c27 h => ?_) (fun c27 h => ?_))
      ·
       refine L.y rfl (Y.pickF rfl rfl) ?_
       refine L.nil (E.thenN (W.condT rfl ?_))
       refine W.seq (W.region (L.y rfl (Y.assign rfl) ?_))
       refine L.nil (E.thenN (W.ret (E.KSR (E.ret1 rfl rfl (fun w1 hw => ?_)))))
       obtain rfl := Option.some.inj h
       exact ⟨_, _, rfl, ⟨rfl, rfl⟩, hw.sel [] (by decide) rfl⟩
      ·
       refine L.y rfl (Y.pickF rfl rfl) ?_
       refine L.nil (E.thenN (W.condF rfl ?_))
       exact W.skip (E.joinJ ⟨rfl, rfl, h⟩ ⟨rfl, rfl, rfl, trivial⟩ (fun _ hw => hw))
    ·
     replace h := iteT h
     refine L.y rfl (Y.move rfl) ?_
     refine L.pass rfl rfl (by nofun) ?_
     refine L.pass rfl rfl (by nofun) ?_
     refine L.pass rfl rfl (by nofun) ?_
     refine L.y rfl (Y.pickT rfl rfl) ?_
     refine L.y rfl (Y.move rfl) ?_
     refine L.pass rfl rfl (by nofun) ?_
     refine L.pass rfl rfl (by nofun) ?_
     refine L.pass rfl rfl (by nofun) ?_
     refine L.y rfl (Y.pickT rfl rfl) ?_
     refine L.nil (E.thenN (W.condT rfl ?_))
     refine W.seq (W.region (L.y rfl (Y.assign rfl) ?_))
     refine L.nil (E.thenN (W.ret (E.KSR (E.ret1 rfl rfl (fun w1 hw => ?_)))))
     obtain rfl := Option.some.inj h
     exact ⟨_, _, rfl, ⟨rfl, rfl⟩, hw.sel [] (by decide) rfl⟩
  ·
   rintro _ _ ⟨rfl, rfl, h⟩
   rw [m112_quirref_recErr_K1] at h
   refine W.seqJ (fun gs D => gs = [(0, u0), (1, .int .i64 a1), (5, pt b2 0)] ∧ D = Cls w [] [.obj b2 [.int .i64 x1.Kind, .int .i64 x1.Tx, .int .i64 x1.Item, .int .i64 x1.Old, .int .i64 x1.New] 99] ∧ m112_quirref_recErr_K2 x1 a0 a1 = some r) ?_ ?_
   ·
    refine W.seq (W.quietC mixed (by kernel_rfl) (fun _ hw => hw.drew) (fun hC => ?_))
    refine U.y rfl (Y.move rfl) ?_
    refine U.y rfl (Y.move rfl) ?_
    refine U.m (V := fun _ => cutv u0 a1.toNat) h rfl (Y.cutM (g := TRec.row) Try.underlying85 sz99 rfl rfl (fun w' hw => hA0.cls0 hw)) (fun l23 el23 h => ?_)
    refine U.y rfl (Y.fieldP fd99_1 rfl) ?_
    refine U.y rfl (Y.loadP (i := 0) ag3 rfl rfl rfl) ?_
    obtain ⟨b24, e25, h⟩ := bind1S h
    refine U.y rfl (Y.does en116 rfl (fun w' hw => (w116_quirref_ended l23 x1.Tx (cutv u0 a1.toNat) w' _ e25 ((At.cutM hA0 el23).cls0 hw)).mono (fun _ _ h => h.1))) ?_
    rcases b24 with _ | _
    ·
     replace h := iteF h
     refine U.nil (E.thenN (W.condF rfl ?_))
     exact W.skip (E.joinJ ⟨rfl, rfl, h⟩ ⟨rfl, rfl, rfl, trivial⟩ (fun _ hw => hw))
    ·
     replace h := iteT h
     refine U.nil (E.thenN (W.condT rfl ?_))
     refine W.seq (W.region (L.y rfl (Y.assign rfl) ?_))
     refine L.nil (E.thenN (W.ret (E.KSR (E.ret1 rfl rfl (fun w1 hw => ?_)))))
     obtain rfl := Option.some.inj h
     exact ⟨_, _, rfl, ⟨rfl, rfl⟩, hw.sel [] (by decide) rfl⟩
   ·
    rintro _ _ ⟨rfl, rfl, h⟩
    rw [m112_quirref_recErr_K2] at h
    refine W.seqJ (fun gs D => gs = [] ∧ D = Cls w [] [] ∧ m112_quirref_recErr_K3 = some r) ?_ ?_
    ·
     refine W.seq (W.region (L.y rfl (Y.fieldP fd99_0 rfl) ?_))
     refine L.y rfl (Y.loadP (i := 0) ag3 rfl rfl rfl) ?_
     refine L.nil (E.thenN (W.block (W.seqJ (fun gs D => ∃ (gb1 : Bool), gs = [(0, u0), (1, .int .i64 a1), (5, pt b2 0), (36, .int .i64 x1.Kind), (37, .bool gb1)] ∧ D = Cls w [] [.obj b2 [.int .i64 x1.Kind, .int .i64 x1.Tx, .int .i64 x1.Item, .int .i64 x1.Old, .int .i64 x1.New] 99] ∧ m112_quirref_recErr_K4 a0 a1 x1 gb1 = some r) ?_ ?_)))
     ·
      refine W.region (L.ite h rfl (Y.eql rfl rfl) (fun c22 h => ?_) (fun c22 h => ?_))
      ·
       refine L.y rfl (Y.assign rfl) ?_
       exact L.nil (E.joinJ ⟨true, rfl, rfl, h⟩ ⟨rfl, rfl, rfl, rfl, rfl, trivial⟩ (fun _ hw => hw))
      ·
       refine L.y rfl (Y.assign rfl) ?_
       exact L.nil (E.joinJ ⟨false, rfl, rfl, h⟩ ⟨rfl, rfl, rfl, rfl, rfl, trivial⟩ (fun _ hw => hw))
     ·
      rintro _ _ ⟨gb1, rfl, rfl, h⟩
      rw [m112_quirref_recErr_K4] at h
      rcases gb1 with _ | _
      ·
       replace h := iteF h
       refine W.condF rfl ?_
       refine W.seqJ (fun gs D => ∃ (gb2 : Bool), gs = [(5, pt b2 0), (87, .bool gb2)] ∧ D = Cls w [] [.obj b2 [.int .i64 x1.Kind, .int .i64 x1.Tx, .int .i64 x1.Item, .int .i64 x1.Old, .int .i64 x1.New] 99] ∧ m112_quirref_recErr_K5 x1 gb2 = some r) ?_ ?_
       ·
        refine W.seq (W.region (L.ite h rfl (Y.eql rfl rfl) (fun c6 h => ?_) (fun c6 h => ?_)))
        ·
         refine L.y rfl (Y.assign rfl) ?_
         refine L.nil (E.thenN (W.condT rfl ?_))
         exact W.skip (E.joinJ ⟨true, rfl, rfl, h⟩ ⟨rfl, rfl, trivial⟩ (fun _ hw => hw))
        ·
         refine L.y rfl (Y.assign rfl) ?_
         refine L.nil (E.thenN (W.condF rfl ?_))
         refine W.region (L.ite h rfl (Y.eql rfl rfl) (fun c7 h => ?_) (fun c7 h => ?_))
         ·
          refine L.y rfl (Y.assign rfl) ?_
          exact L.nil (E.joinJ ⟨true, rfl, rfl, h⟩ ⟨rfl, rfl, trivial⟩ (fun _ hw => hw))
         ·
          refine L.y rfl (Y.assign rfl) ?_
          exact L.nil (E.joinJ ⟨false, rfl, rfl, h⟩ ⟨rfl, rfl, trivial⟩ (fun _ hw => hw))
       ·
        rintro _ _ ⟨gb2, rfl, rfl, h⟩
        rw [m112_quirref_recErr_K5] at h
        rcases gb2 with _ | _
        ·
         replace h := iteF h
         refine W.condF rfl ?_
         exact W.skip (E.blockN (E.joinJ ⟨rfl, rfl, h⟩ trivial (fun _ hw => hw.sel [] (by decide) rfl)))
        ·
         replace h := iteT h
         refine W.condT rfl ?_
         refine W.seq (W.region (L.cutJ 8 (fun gs D => ∃ (gb3 : Bool), gs = [(5, pt b2 0), (97, .bool gb3)] ∧ D = Cls w [] [.obj b2 [.int .i64 x1.Kind, .int .i64 x1.Tx, .int .i64 x1.Item, .int .i64 x1.Old, .int .i64 x1.New] 99] ∧ m112_quirref_recErr_K6 x1 gb3 = some r) ?_ ?_))
         ·
          refine L.y rfl (Y.fieldP fd99_2 rfl) ?_
          refine L.y rfl (Y.loadP (i := 0) ag3 rfl rfl rfl) ?_
          refine L.ite h rfl (Y.eql rfl rfl) (fun c4 h => ?_) (fun c4 h => ?_)
          ·
           refine L.y rfl (Y.move rfl) ?_
           refine L.take rfl (L.y rfl (Y.fieldP fd99_3 rfl) ?_)
           refine L.take rfl (L.y rfl (Y.loadP (i := 0) ag3 rfl rfl rfl) ?_)
           refine L.take rfl (L.ite h rfl (Y.eql rfl rfl) (fun c5 h => ?_) (fun c5 h => ?_))
           ·
            refine L.y rfl (Y.pickT rfl rfl) ?_
            exact L.nil (E.joinJ ⟨true, rfl, rfl, h⟩ ⟨rfl, rfl, trivial⟩ (fun _ hw => hw))
           ·
            refine L.y rfl (Y.pickT rfl rfl) ?_
            exact L.nil (E.joinJ ⟨false, rfl, rfl, h⟩ ⟨rfl, rfl, trivial⟩ (fun _ hw => hw))
          ·
           refine L.y rfl (Y.move rfl) ?_
           refine L.pass rfl rfl (by nofun) ?_
           refine L.pass rfl rfl (by nofun) ?_
           refine L.pass rfl rfl (by nofun) ?_
           refine L.y rfl (Y.pickF rfl rfl) ?_
           exact L.nil (E.joinJ ⟨false, rfl, rfl, h⟩ ⟨rfl, rfl, trivial⟩ (fun _ hw => hw))
         ·
          rintro _ _ ⟨gb3, rfl, rfl, h⟩
          rw [m112_quirref_recErr_K6] at h
          rcases gb3 with _ | _
          ·
           replace h := iteF h
           refine L.y rfl (Y.move rfl) ?_
           refine L.pass rfl rfl (by nofun) ?_
           refine L.pass rfl rfl (by nofun) ?_
           refine L.pass rfl rfl (by nofun) ?_
           refine L.y rfl (Y.pickF rfl rfl) ?_
           refine L.nil (E.thenN (W.condF rfl ?_))
           exact W.skip (E.blockN (E.joinJ ⟨rfl, rfl, h⟩ trivial (fun _ hw => hw.sel [] (by decide) rfl)))
          ·
           replace h := iteT h
           refine L.y rfl (Y.move rfl) ?_
           refine L.take rfl (L.y rfl (Y.fieldP fd99_4 rfl) ?_)
           refine L.take rfl (L.y rfl (Y.loadP (i := 0) ag3 rfl rfl rfl) ?_)
           refine L.take rfl (L.ite h rfl (Y.eql rfl rfl) (fun c3 h => ?_) (fun c3 h => ?_))
           ·
            refine L.y rfl (Y.pickT rfl rfl) ?_
            refine L.nil (E.thenN (W.condT rfl ?_))
            refine W.seq (W.region (L.y rfl (Y.assign rfl) ?_))
            refine L.nil (E.thenN (W.ret (E.blockR (E.KSR (E.ret1 rfl rfl (fun w1 hw => ?_))))))
            obtain rfl := Option.some.inj h
            exact ⟨_, _, rfl, ⟨rfl, rfl⟩, hw.sel [] (by decide) rfl⟩
           ·
            refine L.y rfl (Y.pickT rfl rfl) ?_
            refine L.nil (E.thenN (W.condF rfl ?_))
            exact W.skip (E.blockN (E.joinJ ⟨rfl, rfl, h⟩ trivial (fun _ hw => hw.sel [] (by decide) rfl)))
      ·
       replace h := iteT h
       refine W.condT rfl ?_
       refine W.seq (W.quietC mixed (by kernel_rfl) (fun _ hw => hw.drew) (fun hC => ?_))
       refine U.y rfl (Y.move rfl) ?_
       refine U.y rfl (Y.move rfl) ?_
       refine U.m (V := fun _ => cutv u0 a1.toNat) h rfl (Y.cutM (g := TRec.row) Try.underlying85 sz99 rfl rfl (fun w' hw => hA0.cls0 hw)) (fun l8 el8 h => ?_)
       refine U.y rfl (Y.fieldP fd99_2 rfl) ?_
       refine U.y rfl (Y.loadP (i := 0) ag3 rfl rfl rfl) ?_
       obtain ⟨x9, e10, h⟩ := bind1S h
       refine U.y rfl (Y.does en115 rfl (fun w' hw => (w115_quirref_lastUpdate l8 x1.Item (cutv u0 a1.toNat) w' _ e10 ((At.cutM hA0 el8).cls0 hw)).mono (fun _ _ h => h.1))) ?_
       refine U.y rfl (Y.assign rfl) ?_
       refine U.nil (E.thenN (W.seq (W.quietC mixed (by kernel_rfl) (fun _ hw => hw.drew) (fun hC => ?_))))
       refine U.cutJ hC 7 (fun gs => ∃ (gb4 : Bool), gs = [(0, u0), (1, .int .i64 a1), (5, pt b2 0), (6, .int .i64 x9), (51, .bool gb4)] ∧ m112_quirref_recErr_K7 x9 a0 x1 a1 gb4 = some r) ?_ ?_
       ·
        refine U.y rfl (Y.move rfl) ?_
        refine U.ite h rfl (Y.lss rfl rfl) (fun c20 h => ?_) (fun c20 h => ?_)
        ·
         refine U.y rfl (Y.move rfl) ?_
         refine U.take rfl (U.y rfl (Y.fieldP fd99_3 rfl) ?_)
         refine U.take rfl (U.y rfl (Y.loadP (i := 0) ag3 rfl rfl rfl) ?_)
         refine U.take rfl (U.ite h rfl (Y.eql rfl rfl) (fun c21 h => ?_) (fun c21 h => ?_))
         ·
          refine U.y rfl (Y.pickT rfl rfl) ?_
          exact U.nil (E.joinU ⟨true, rfl, h⟩ ⟨rfl, rfl, rfl, rfl, rfl, trivial⟩)
         ·
          refine U.y rfl (Y.pickT rfl rfl) ?_
          exact U.nil (E.joinU ⟨false, rfl, h⟩ ⟨rfl, rfl, rfl, rfl, rfl, trivial⟩)
        ·
         refine U.y rfl (Y.move rfl) ?_
         refine U.pass rfl rfl (by nofun) ?_
         refine U.pass rfl rfl (by nofun) ?_
         refine U.pass rfl rfl (by nofun) ?_
         refine U.y rfl (Y.pickF rfl rfl) ?_
         exact U.nil (E.joinU ⟨false, rfl, h⟩ ⟨rfl, rfl, rfl, rfl, rfl, trivial⟩)
       ·
        rintro _ ⟨gb4, rfl, h⟩
        rw [m112_quirref_recErr_K7] at h
        rcases gb4 with _ | _
        ·
         replace h := iteF h
         refine U.cutJ hC 13 (fun gs => ∃ (gb5 : Bool), gs = [(0, u0), (1, .int .i64 a1), (5, pt b2 0), (6, .int .i64 x9), (52, .bool false), (64, .bool gb5)] ∧ m112_quirref_recErr_K8 a0 x9 x1 a1 gb5 = some r) ?_ ?_
         ·
          refine U.y rfl (Y.move rfl) ?_
          refine U.take rfl (U.y rfl (Y.move rfl) ?_)
          refine U.take rfl (U.ite h rfl (Y.geq rfl rfl) (fun c17 h => ?_) (fun c17 h => ?_))
          ·
           refine U.take rfl (U.y rfl (Y.move rfl) ?_)
           refine U.take rfl (U.y rfl (Y.fieldP fd99_3 rfl) ?_)
           refine U.take rfl (U.y rfl (Y.loadP (i := 0) ag3 rfl rfl rfl) ?_)
           refine U.take rfl (U.y rfl (Y.move rfl) ?_)
           refine U.take rfl (U.y rfl (Y.move rfl) ?_)
           refine U.take rfl (U.m (V := fun _ => el u0 (x9.toNat * 5)) h rfl (Y.indexM (g := TRec.row) (l := a0) Try.underlying85 sz99 rfl rfl (fun w' hw => hA0.cls0 hw)) (fun x18 ex18 h => ?_))
           refine U.take rfl (U.y rfl (Y.fieldE fd99_4 rfl) ?_)
           refine U.take rfl (U.y rfl (Y.loadE (u := .int .i64 x18.New) ag3 rfl (fun w' hw => hA0.cls0 hw) (idx_map ex18) rfl) ?_)
           refine U.take rfl (U.ite h rfl (Y.eql rfl rfl) (fun c19 h => ?_) (fun c19 h => ?_))
           ·
            refine U.take rfl (U.y rfl (Y.pickT rfl rfl) ?_)
            exact U.nil (E.joinU ⟨true, rfl, h⟩ ⟨rfl, rfl, rfl, rfl, rfl, rfl, trivial⟩)
           ·
            refine U.take rfl (U.y rfl (Y.pickT rfl rfl) ?_)
            exact U.nil (E.joinU ⟨false, rfl, h⟩ ⟨rfl, rfl, rfl, rfl, rfl, rfl, trivial⟩)
          ·
           refine U.take rfl (U.y rfl (Y.move rfl) ?_)
           refine U.pass rfl rfl (by nofun) ?_
           refine U.pass rfl rfl (by nofun) ?_
           refine U.pass rfl rfl (by nofun) ?_
           refine U.pass rfl rfl (by nofun) ?_
           refine U.pass rfl rfl (by nofun) ?_
           refine U.pass rfl rfl (by nofun) ?_
           refine U.pass rfl rfl (by nofun) ?_
           refine U.pass rfl rfl (by nofun) ?_
           refine U.take rfl (U.y rfl (Y.pickF rfl rfl) ?_)
           exact U.nil (E.joinU ⟨false, rfl, h⟩ ⟨rfl, rfl, rfl, rfl, rfl, rfl, trivial⟩)
         ·
          rintro _ ⟨gb5, rfl, h⟩
          rw [m112_quirref_recErr_K8] at h
          rcases gb5 with _ | _
          ·
           replace h := iteF h
           refine U.take rfl (U.y rfl (Y.move rfl) ?_)
           refine U.pass rfl rfl (by nofun) ?_
           refine U.pass rfl rfl (by nofun) ?_
           refine U.pass rfl rfl (by nofun) ?_
           refine U.pass rfl rfl (by nofun) ?_
           refine U.pass rfl rfl (by nofun) ?_
           refine U.pass rfl rfl (by nofun) ?_
           refine U.pass rfl rfl (by nofun) ?_
           refine U.pass rfl rfl (by nofun) ?_
           refine U.pass rfl rfl (by nofun) ?_
           refine U.pass rfl rfl (by nofun) ?_
           refine U.pass rfl rfl (by nofun) ?_
           refine U.pass rfl rfl (by nofun) ?_
           refine U.pass rfl rfl (by nofun) ?_
           refine U.pass rfl rfl (by nofun) ?_
           refine U.pass rfl rfl (by nofun) ?_
           refine U.pass rfl rfl (by nofun) ?_
           refine U.pass rfl rfl (by nofun) ?_
           refine U.pass rfl rfl (by nofun) ?_
           refine U.pass rfl rfl (by nofun) ?_
           refine U.take rfl (U.y rfl (Y.pickF rfl rfl) ?_)
           refine U.y rfl (Y.pickF rfl rfl) ?_
           refine U.nil (E.thenN (W.condF rfl ?_))
           exact W.skip (E.blockN (E.joinJ ⟨rfl, rfl, h⟩ trivial (fun _ hw => hw.sel [] (by decide) rfl)))
          ·
           replace h := iteT h
           refine U.cutJ hC 20 (fun gs => ∃ (gb6 : Bool), gs = [(52, .bool false), (65, .bool true), (84, .bool gb6)] ∧ m112_quirref_recErr_K9 gb6 = some r) ?_ ?_
           ·
            refine U.take rfl (U.y rfl (Y.move rfl) ?_)
            refine U.take rfl (U.y rfl (Y.move rfl) ?_)
            refine U.take rfl (U.y rfl (Y.move rfl) ?_)
            refine U.take rfl (U.m (V := fun _ => el u0 (x9.toNat * 5)) h rfl (Y.indexM (g := TRec.row) (l := a0) Try.underlying85 sz99 rfl rfl (fun w' hw => hA0.cls0 hw)) (fun x11 ex11 h => ?_))
            refine U.take rfl (U.y rfl (Y.fieldE fd99_1 rfl) ?_)
            refine U.take rfl (U.y rfl (Y.loadE (u := .int .i64 x11.Tx) ag3 rfl (fun w' hw => hA0.cls0 hw) (idx_map ex11) rfl) ?_)
            refine U.take rfl (U.y rfl (Y.fieldP fd99_1 rfl) ?_)
            refine U.take rfl (U.y rfl (Y.loadP (i := 0) ag3 rfl rfl rfl) ?_)
            refine U.take rfl (U.ite h rfl (Y.eql rfl rfl) (fun c12 h => ?_) (fun c12 h => ?_))
            ·
             refine U.take rfl (U.y rfl (Y.move rfl) ?_)
             refine U.pass rfl rfl (by nofun) ?_
             refine U.pass rfl rfl (by nofun) ?_
             refine U.pass rfl rfl (by nofun) ?_
             refine U.pass rfl rfl (by nofun) ?_
             refine U.pass rfl rfl (by nofun) ?_
             refine U.pass rfl rfl (by nofun) ?_
             refine U.pass rfl rfl (by nofun) ?_
             refine U.pass rfl rfl (by nofun) ?_
             refine U.pass rfl rfl (by nofun) ?_
             refine U.take rfl (U.y rfl (Y.pickT rfl rfl) ?_)
             exact U.nil (E.joinU ⟨true, rfl, h⟩ ⟨rfl, rfl, rfl, trivial⟩)
            ·
             refine U.take rfl (U.y rfl (Y.move rfl) ?_)
             refine U.take rfl (U.y rfl (Y.move rfl) ?_)
             refine U.take rfl (U.y rfl (Y.move rfl) ?_)
             refine U.take rfl (U.m (V := fun _ => cutv u0 a1.toNat) h rfl (Y.cutM (g := TRec.row) Try.underlying85 sz99 rfl rfl (fun w' hw => hA0.cls0 hw)) (fun l13 el13 h => ?_))
             refine U.take rfl (U.y rfl (Y.move rfl) ?_)
             refine U.take rfl (U.y rfl (Y.move rfl) ?_)
             refine U.take rfl (U.m (V := fun _ => el u0 (x9.toNat * 5)) h rfl (Y.indexM (g := TRec.row) (l := a0) Try.underlying85 sz99 rfl rfl (fun w' hw => hA0.cls0 hw)) (fun x14 ex14 h => ?_))
             refine U.take rfl (U.y rfl (Y.fieldE fd99_1 rfl) ?_)
             refine U.take rfl (U.y rfl (Y.loadE (u := .int .i64 x14.Tx) ag3 rfl (fun w' hw => hA0.cls0 hw) (idx_map ex14) rfl) ?_)
             refine U.take rfl ?_
             obtain ⟨b15, e16, h⟩ := bind1S h
             refine U.y rfl (Y.does en116 rfl (fun w' hw => (w116_quirref_ended l13 x14.Tx (cutv u0 a1.toNat) w' _ e16 ((At.cutM hA0 el13).cls0 hw)).mono (fun _ _ h => h.1))) ?_
             rcases b15 with _ | _
             ·
              replace h := iteF h
              refine U.take rfl (U.y rfl (Y.pickF rfl rfl) ?_)
              exact U.nil (E.joinU ⟨false, rfl, h⟩ ⟨rfl, rfl, rfl, trivial⟩)
             ·
              replace h := iteT h
              refine U.take rfl (U.y rfl (Y.pickF rfl rfl) ?_)
              exact U.nil (E.joinU ⟨true, rfl, h⟩ ⟨rfl, rfl, rfl, trivial⟩)
           ·
            rintro _ ⟨gb6, rfl, h⟩
            rw [m112_quirref_recErr_K9] at h
            rcases gb6 with _ | _
            ·
             replace h := iteF h
             refine U.take rfl (U.y rfl (Y.pickT rfl rfl) ?_)
             refine U.y rfl (Y.pickF rfl rfl) ?_
             refine U.nil (E.thenN (W.condF rfl ?_))
             exact W.skip (E.blockN (E.joinJ ⟨rfl, rfl, h⟩ trivial (fun _ hw => hw.sel [] (by decide) rfl)))
            ·
             replace h := iteT h
             refine U.take rfl (U.y rfl (Y.pickT rfl rfl) ?_)
             refine U.y rfl (Y.pickF rfl rfl) ?_
             refine U.nil (E.thenN (W.condT rfl ?_))
             refine W.seq (W.region (L.y rfl (Y.assign rfl) ?_))
             refine L.nil (E.thenN (W.ret (E.blockR (E.KSR (E.ret1 rfl rfl (fun w1 hw => ?_))))))
             obtain rfl := Option.some.inj h
             exact ⟨_, _, rfl, ⟨rfl, rfl⟩, hw.sel [] (by decide) rfl⟩
        ·
         replace h := iteT h
         refine U.y rfl (Y.move rfl) ?_
         refine U.pass rfl rfl (by nofun) ?_
         refine U.pass rfl rfl (by nofun) ?_
         refine U.pass rfl rfl (by nofun) ?_
         refine U.pass rfl rfl (by nofun) ?_
         refine U.pass rfl rfl (by nofun) ?_
         refine U.pass rfl rfl (by nofun) ?_
         refine U.pass rfl rfl (by nofun) ?_
         refine U.pass rfl rfl (by nofun) ?_
         refine U.pass rfl rfl (by nofun) ?_
         refine U.pass rfl rfl (by nofun) ?_
         refine U.pass rfl rfl (by nofun) ?_
         refine U.pass rfl rfl (by nofun) ?_
         refine U.pass rfl rfl (by nofun) ?_
         refine U.pass rfl rfl (by nofun) ?_
         refine U.pass rfl rfl (by nofun) ?_
         refine U.pass rfl rfl (by nofun) ?_
         refine U.pass rfl rfl (by nofun) ?_
         refine U.pass rfl rfl (by nofun) ?_
         refine U.pass rfl rfl (by nofun) ?_
         refine U.pass rfl rfl (by nofun) ?_
         refine U.pass rfl rfl (by nofun) ?_
         refine U.pass rfl rfl (by nofun) ?_
         refine U.pass rfl rfl (by nofun) ?_
         refine U.pass rfl rfl (by nofun) ?_
         refine U.pass rfl rfl (by nofun) ?_
         refine U.pass rfl rfl (by nofun) ?_
         refine U.pass rfl rfl (by nofun) ?_
         refine U.pass rfl rfl (by nofun) ?_
         refine U.pass rfl rfl (by nofun) ?_
         refine U.pass rfl rfl (by nofun) ?_
         refine U.pass rfl rfl (by nofun) ?_
         refine U.pass rfl rfl (by nofun) ?_
         refine U.pass rfl rfl (by nofun) ?_
         refine U.y rfl (Y.pickT rfl rfl) ?_
         refine U.nil (E.thenN (W.condT rfl ?_))
         refine W.seq (W.region (L.y rfl (Y.assign rfl) ?_))
         refine L.nil (E.thenN (W.ret (E.blockR (E.KSR (E.ret1 rfl rfl (fun w1 hw => ?_))))))
         obtain rfl := Option.some.inj h
         exact ⟨_, _, rfl, ⟨rfl, rfl⟩, hw.sel [] (by decide) rfl⟩
    ·
     rintro _ _ ⟨rfl, rfl, h⟩
     rw [m112_quirref_recErr_K3] at h
     refine W.seq (W.region (L.y rfl (Y.assign rfl) ?_))
     refine L.nil (E.thenN (W.ret (E.ret1 rfl rfl (fun w1 hw => ?_))))
     obtain rfl := Option.some.inj h
     exact ⟨_, _, rfl, ⟨rfl, rfl⟩, hw⟩
set_option maxRecDepth 100000 in
set_option maxHeartbeats 8000000 in
theorem w57_quirref_LogErr (a0 : (List TRec)) (u0 : Value) (w : World) (r : Int) (h : m57_quirref_LogErr a0 = some r) (hA0 : At w u0 5 (a0.map TRec.row)) : Does Try.prog 57 [u0] w fun u m => u = .int .i64 r ∧ m = [] := by
  rw [m57_quirref_LogErr] at h
  refine body (n := 20) Try.func57 rfl rfl rfl (Cls.refl w) ?_
  refine W.seq (W.region (L.y rfl (Y.assign rfl) ?_))
  refine L.nil (E.thenN (W.seqJ (fun gs D => gs = [(0, u0)] ∧ D = Cls w [] [] ∧ m57_quirref_LogErr_K1 a0 = some r) ?_ ?_))
  ·
   refine W.seq (W.region (L.y rfl (Y.move rfl) ?_))
   refine L.y rfl (Y.lenM (g := TRec.row) (l := a0) Try.underlying85 rfl (fun w' hw => hA0.cls0 hw)) ?_
   refine L.ite h rfl (Y.gtr rfl rfl) (fun c6 h => ?_) (fun c6 h => ?_)
   ·
    refine L.nil (E.thenN (W.condT rfl ?_))
    refine W.seq (W.region (L.y rfl (Y.assign rfl) ?_))
    refine L.nil (E.thenN (W.ret (E.KSR (E.ret1 rfl rfl (fun w1 hw => ?_)))))
    obtain rfl := Option.some.inj h
    exact ⟨_, _, rfl, ⟨rfl, rfl⟩, hw⟩
   ·
    refine L.nil (E.thenN (W.condF rfl ?_))
    exact W.skip (E.joinJ ⟨rfl, rfl, h⟩ ⟨rfl, trivial⟩ (fun _ hw => hw))
  ·
   rintro _ _ ⟨rfl, rfl, h⟩
   rw [m57_quirref_LogErr_K1] at h
   refine W.seqJ (fun gs D => gs = [] ∧ D = Cls w [] [] ∧ m57_quirref_LogErr_K2 = some r) ?_ ?_
   ·
    refine W.seq (W.region (L.y rfl (Y.move rfl) ?_))
    refine L.y rfl (Y.lenM (g := TRec.row) (l := a0) Try.underlying85 rfl (fun w' hw => hA0.cls0 hw)) ?_
    refine L.y rfl (Y.move rfl) ?_
    refine L.nil (E.thenN (W.block (W.loopJ (fun m gs D => ∃ (gx1 : Int), gs = [(0, u0), (9, .int .i64 (a0.length : Int)), (10, .int .i64 gx1)] ∧ D = Cls w [] [] ∧ m57_quirref_LogErr_L1 a0 m gx1 = some r) ⟨0, rfl, rfl, h⟩ ⟨rfl, rfl, rfl, trivial⟩ (fun _ hw => hw) ?_)))
    rintro m _ _ ⟨gx1, rfl, rfl, h⟩
    rcases m with _ | m
    · rw [m57_quirref_LogErr_L1] at h; cases h
    rw [m57_quirref_LogErr_L1] at h
    generalize hg1 : m57_quirref_LogErr_L1 a0 m = go1 at h
    rw [m57_quirref_LogErr_L1B] at h
    refine W.seq (W.region (L.ite h rfl (Y.lss rfl rfl) (fun c1 h => ?_) (fun c1 h => ?_)))
    ·
     refine L.nil (E.thenN (W.seq (W.condT rfl ?_)))
     refine W.skip (E.thenN (W.seq (W.block (W.seq (W.region (L.y rfl (Y.move rfl) ?_))))))
     refine L.y rfl (Y.assign rfl) ?_
     refine L.nil (E.thenN (W.seq (W.region (L.y rfl (Y.move rfl) ?_))))
     refine L.y rfl (Y.move rfl) ?_
     obtain ⟨x2, e3, h⟩ := bind1S h
     refine L.y rfl (Y.does en112 rfl (fun w' hw => (w112_quirref_recErr a0 gx1 u0 w' _ e3 (hA0.cls0 hw)).mono (fun _ _ h => h.1))) ?_
     refine L.y rfl (Y.assign rfl) ?_
     refine L.nil (E.thenN (W.seq (W.region (L.y rfl (Y.move rfl) ?_))))
     refine L.ite h rfl (Y.neq rfl rfl) (fun c4 h => ?_) (fun c4 h => ?_)
     ·
      refine L.nil (E.thenN (W.condT rfl ?_))
      refine W.seq (W.region (L.y rfl (Y.move rfl) ?_))
      refine L.y rfl (Y.assign rfl) ?_
      refine L.nil (E.thenN (W.ret (E.blockR (E.thenR (E.KLR (E.blockR (E.KSR (E.ret1 rfl rfl (fun w1 hw => ?_)))))))))
      obtain rfl := Option.some.inj h
      exact ⟨_, _, rfl, ⟨rfl, rfl⟩, hw⟩
     ·
      refine L.nil (E.thenN (W.condF rfl ?_))
      refine W.skip (E.blockN (E.thenN (W.region (L.m (V := fun x5 => .int .i64 x5) h rfl (Y.addM rfl rfl) (fun x5 ex5 h => ?_)))))
      refine L.y rfl (Y.move rfl) ?_
      exact L.nil (E.againJ ⟨x5, rfl, rfl, by rw [hg1]; exact h⟩ (Nat.lt_succ_self _) ⟨rfl, rfl, rfl, trivial⟩ (fun _ hw => hw))
    ·
     refine L.nil (E.thenN (W.seq (W.condF rfl ?_)))
     exact W.exit (E.thenX (E.KLX (E.blockX (E.joinJ ⟨rfl, rfl, h⟩ trivial (fun _ hw => hw)))))
   ·
    rintro _ _ ⟨rfl, rfl, h⟩
    rw [m57_quirref_LogErr_K2] at h
    refine W.seq (W.region (L.y rfl (Y.assign rfl) ?_))
    refine L.nil (E.thenN (W.ret (E.ret1 rfl rfl (fun w1 hw => ?_))))
    obtain rfl := Option.some.inj h
    exact ⟨_, _, rfl, ⟨rfl, rfl⟩, hw⟩
set_option maxRecDepth 100000 in
set_option maxHeartbeats 8000000 in
theorem w60_redo_Check (a0 : (List TRec)) (u0 : Value) (w : World) (r : Int) (h : m60_redo_Check a0 = some r) (hA0 : At w u0 5 (a0.map TRec.row)) : Does Try.prog 60 [u0] w fun u m => u = .int .i64 r ∧ m = [] := by
  rw [m60_redo_Check] at h
  refine body (n := 114) Try.func60 rfl rfl rfl (Cls.refl w) ?_
  refine W.seq (W.region (L.y rfl (Y.assign rfl) ?_))
  refine L.nil (E.thenN (W.seqJ (fun gs D => gs = [(0, u0)] ∧ D = Cls w [] [] ∧ m60_redo_Check_K1 a0 = some r) ?_ ?_))
  ·
   refine W.seq (W.region (L.y rfl (Y.move rfl) ?_))
   refine L.y rfl (Y.lenM (g := TRec.row) (l := a0) Try.underlying85 rfl (fun w' hw => hA0.cls0 hw)) ?_
   refine L.ite h rfl (Y.gtr rfl rfl) (fun c43 h => ?_) (fun c43 h => ?_)
   ·
    refine L.nil (E.thenN (W.condT rfl ?_))
    refine W.seq (W.region (L.y rfl (Y.assign rfl) ?_))
    refine L.nil (E.thenN (W.ret (E.KSR (E.ret1 rfl rfl (fun w1 hw => ?_)))))
    obtain rfl := Option.some.inj h
    exact ⟨_, _, rfl, ⟨rfl, rfl⟩, hw⟩
   ·
    refine L.nil (E.thenN (W.condF rfl ?_))
    exact W.skip (E.joinJ ⟨rfl, rfl, h⟩ ⟨rfl, trivial⟩ (fun _ hw => hw))
  ·
   rintro _ _ ⟨rfl, rfl, h⟩
   rw [m60_redo_Check_K1] at h
   refine W.seq (W.region (L.alloc rfl ze167 ?_))
   intro b1
   refine L.to (D := Cls w [] [.obj b1 (((List.replicate 12 (false : Bool)).map B).flatten) 167]) (fun _ hw => by first | exact hw | simpa [I, B, SR] using hw) ?_
   refine L.nil (E.thenN (W.seq (W.region (L.makeMap rfl ?_))))
   intro b2
   refine L.y rfl (Y.assign rfl) ?_
   refine L.nil (E.thenN (W.seq (W.region (L.alloc rfl ze76 ?_))))
   intro b3
   refine L.to (D := Cls w [] [.obj b3 (((List.replicate 20 (0 : Int)).map I).flatten) 76, .mp b2 (mrow (VI .i64) []), .obj b1 (((List.replicate 12 (false : Bool)).map B).flatten) 167]) (fun _ hw => by first | exact hw | simpa [I, B, SR] using hw) ?_
   refine L.nil (E.thenN (W.seqJ (fun gs D => gs = [] ∧ D = Cls w [] [] ∧ m60_redo_Check_K2 = some r) ?_ ?_))
   ·
    refine W.seq (W.region (L.y rfl (Y.move rfl) ?_))
    refine L.y rfl (Y.lenM (g := TRec.row) (l := a0) Try.underlying85 rfl (fun w' hw => hA0.cls0 hw)) ?_
    refine L.y rfl (Y.move rfl) ?_
    refine L.nil (E.thenN (W.block (W.loopJ (fun m gs D => ∃ (gx1 : Int) (gl2 : (List Int)) (gl3 : (List (Int × Int))) (gl4 : (List Bool)), gs = [(3, pt b1 0), (4, .map (some b2)), (5, pt b3 0), (15, u0), (16, .int .i64 (a0.length : Int)), (17, .int .i64 gx1)] ∧ D = Cls w [] [.obj b3 ((gl2.map I).flatten) 76, .mp b2 (mrow (VI .i64) gl3), .obj b1 ((gl4.map B).flatten) 167] ∧ m60_redo_Check_L1 a0 m gx1 gl2 gl3 gl4 = some r) ⟨0, (List.replicate 20 (0 : Int)), [], (List.replicate 12 (false : Bool)), rfl, rfl, h⟩ ⟨rfl, rfl, rfl, rfl, rfl, rfl, trivial⟩ (fun _ hw => hw) ?_)))
    rintro m _ _ ⟨gx1, gl2, gl3, gl4, rfl, rfl, h⟩
    rcases m with _ | m
    · rw [m60_redo_Check_L1] at h; cases h
    rw [m60_redo_Check_L1] at h
    generalize hg1 : m60_redo_Check_L1 a0 m = go1 at h
    rw [m60_redo_Check_L1B] at h
    refine W.seq (W.region (L.ite h rfl (Y.lss rfl rfl) (fun c4 h => ?_) (fun c4 h => ?_)))
    ·
     refine L.nil (E.thenN (W.seq (W.condT rfl ?_)))
     refine W.skip (E.thenN (W.seqJ (fun gs D => ∃ (gl5 : (List Int)) (gl6 : (List (Int × Int))) (gl7 : (List Bool)), gs = [(3, pt b1 0), (4, .map (some b2)), (5, pt b3 0), (15, u0), (16, .int .i64 (a0.length : Int)), (17, .int .i64 gx1)] ∧ D = Cls w [] [.obj b3 ((gl5.map I).flatten) 76, .mp b2 (mrow (VI .i64) gl6), .obj b1 ((gl7.map B).flatten) 167] ∧ m60_redo_Check_K3 gx1 go1 gl5 gl6 gl7 = some r) ?_ ?_))
     ·
      refine W.block (W.seq (W.region (L.m (V := fun _ => el u0 (gx1.toNat * 5)) h rfl (Y.indexM (g := TRec.row) (l := a0) Try.underlying85 sz99 rfl rfl (fun w' hw => hA0.cls0 hw)) (fun x6 ex6 h => ?_))))
      refine L.y rfl (Y.loadEN (r := [.int .i64 x6.Kind, .int .i64 x6.Tx, .int .i64 x6.Item, .int .i64 x6.Old, .int .i64 x6.New]) ag99 sz99 rfl (fun w' hw => hA0.cls0 hw) (idx_map ex6) rfl) ?_
      refine L.alloc rfl ze99 ?_
      intro b7
      refine L.store (i := 0) (vs := [.int .i64 x6.Kind, .int .i64 x6.Tx, .int .i64 x6.Item, .int .i64 x6.Old, .int .i64 x6.New]) sz99 rfl rfl rfl rfl (by simp [Value.oneCell', Value.cells, st, pt]) rfl (Nat.le_of_ble_eq_true rfl) ?_
      refine L.nil (E.thenN (W.seqJ (fun gs D => gs = [(3, pt b1 0), (4, .map (some b2)), (5, pt b3 0), (7, pt b7 0), (15, u0), (16, .int .i64 (a0.length : Int)), (17, .int .i64 gx1)] ∧ D = Cls w [] [.obj b7 [.int .i64 x6.Kind, .int .i64 x6.Tx, .int .i64 x6.Item, .int .i64 x6.Old, .int .i64 x6.New] 99, .obj b3 ((gl2.map I).flatten) 76, .mp b2 (mrow (VI .i64) gl3), .obj b1 ((gl4.map B).flatten) 167] ∧ m60_redo_Check_K4 gl4 x6 gl3 gl2 gx1 go1 = some r) ?_ ?_))
      ·
       refine W.seq (W.region (L.cutJ 8 (fun gs D => ∃ (gb14 : Bool), gs = [(3, pt b1 0), (4, .map (some b2)), (5, pt b3 0), (7, pt b7 0), (15, u0), (16, .int .i64 (a0.length : Int)), (17, .int .i64 gx1), (28, .bool gb14)] ∧ D = Cls w [] [.obj b7 [.int .i64 x6.Kind, .int .i64 x6.Tx, .int .i64 x6.Item, .int .i64 x6.Old, .int .i64 x6.New] 99, .obj b3 ((gl2.map I).flatten) 76, .mp b2 (mrow (VI .i64) gl3), .obj b1 ((gl4.map B).flatten) 167] ∧ m60_redo_Check_K12 x6 gl4 gl3 gl2 gx1 go1 gb14 = some r) ?_ ?_))
       ·
        refine L.y rfl (Y.fieldP fd99_1 rfl) ?_
        refine L.y rfl (Y.loadP (i := 0) ag3 rfl rfl rfl) ?_
        refine L.ite h rfl (Y.lss rfl rfl) (fun c41 h => ?_) (fun c41 h => ?_)
        ·
         refine L.y rfl (Y.move rfl) ?_
         refine L.pass rfl rfl (by nofun) ?_
         refine L.pass rfl rfl (by nofun) ?_
         refine L.pass rfl rfl (by nofun) ?_
         refine L.y rfl (Y.pickT rfl rfl) ?_
         exact L.nil (E.joinJ ⟨true, rfl, rfl, h⟩ ⟨rfl, rfl, rfl, rfl, rfl, rfl, rfl, rfl, trivial⟩ (fun _ hw => hw))
        ·
         refine L.y rfl (Y.move rfl) ?_
         refine L.take rfl (L.y rfl (Y.fieldP fd99_1 rfl) ?_)
         refine L.take rfl (L.y rfl (Y.loadP (i := 0) ag3 rfl rfl rfl) ?_)
         refine L.take rfl (L.ite h rfl (Y.geq rfl rfl) (fun c42 h => ?_) (fun c42 h => ?_))
         ·
          refine L.y rfl (Y.pickF rfl rfl) ?_
          exact L.nil (E.joinJ ⟨true, rfl, rfl, h⟩ ⟨rfl, rfl, rfl, rfl, rfl, rfl, rfl, rfl, trivial⟩ (fun _ hw => hw))
         ·
          refine L.y rfl (Y.pickF rfl rfl) ?_
          exact L.nil (E.joinJ ⟨false, rfl, rfl, h⟩ ⟨rfl, rfl, rfl, rfl, rfl, rfl, rfl, rfl, trivial⟩ (fun _ hw => hw))
       ·
        rintro _ _ ⟨gb14, rfl, rfl, h⟩
        rw [m60_redo_Check_K12] at h
        rcases gb14 with _ | _
        ·
         replace h := iteF h
         refine L.y rfl (Y.move rfl) ?_
         refine L.take rfl (L.y rfl (Y.fieldP fd99_2 rfl) ?_)
         refine L.take rfl (L.y rfl (Y.loadP (i := 0) ag3 rfl rfl rfl) ?_)
         refine L.take rfl (L.ite h rfl (Y.lss rfl rfl) (fun c39 h => ?_) (fun c39 h => ?_))
         ·
          refine L.y rfl (Y.pickF rfl rfl) ?_
          refine L.y rfl (Y.move rfl) ?_
          refine L.pass rfl rfl (by nofun) ?_
          refine L.pass rfl rfl (by nofun) ?_
          refine L.pass rfl rfl (by nofun) ?_
          refine L.y rfl (Y.pickT rfl rfl) ?_
          refine L.nil (E.thenN (W.condT rfl ?_))
          refine W.seq (W.region (L.y rfl (Y.assign rfl) ?_))
          refine L.nil (E.thenN (W.ret (E.KSR (E.blockR (E.KSR (E.KLR (E.blockR (E.KSR (E.ret1 rfl rfl (fun w1 hw => ?_))))))))))
          obtain rfl := Option.some.inj h
          exact ⟨_, _, rfl, ⟨rfl, rfl⟩, hw.sel [] (by decide) rfl⟩
         ·
          refine L.y rfl (Y.pickF rfl rfl) ?_
          refine L.y rfl (Y.move rfl) ?_
          refine L.take rfl (L.y rfl (Y.fieldP fd99_2 rfl) ?_)
          refine L.take rfl (L.y rfl (Y.loadP (i := 0) ag3 rfl rfl rfl) ?_)
          refine L.take rfl (L.ite h rfl (Y.geq rfl rfl) (fun c40 h => ?_) (fun c40 h => ?_))
          ·
           refine L.y rfl (Y.pickF rfl rfl) ?_
           refine L.nil (E.thenN (W.condT rfl ?_))
           refine W.seq (W.region (L.y rfl (Y.assign rfl) ?_))
           refine L.nil (E.thenN (W.ret (E.KSR (E.blockR (E.KSR (E.KLR (E.blockR (E.KSR (E.ret1 rfl rfl (fun w1 hw => ?_))))))))))
           obtain rfl := Option.some.inj h
           exact ⟨_, _, rfl, ⟨rfl, rfl⟩, hw.sel [] (by decide) rfl⟩
          ·
           refine L.y rfl (Y.pickF rfl rfl) ?_
           refine L.nil (E.thenN (W.condF rfl ?_))
           exact W.skip (E.joinJ ⟨rfl, rfl, h⟩ ⟨rfl, rfl, rfl, rfl, rfl, rfl, rfl, trivial⟩ (fun _ hw => hw))
        ·
         replace h := iteT h
         refine L.y rfl (Y.move rfl) ?_
         refine L.pass rfl rfl (by nofun) ?_
         refine L.pass rfl rfl (by nofun) ?_
         refine L.pass rfl rfl (by nofun) ?_
         refine L.y rfl (Y.pickT rfl rfl) ?_
         refine L.y rfl (Y.move rfl) ?_
         refine L.pass rfl rfl (by nofun) ?_
         refine L.pass rfl rfl (by nofun) ?_
         refine L.pass rfl rfl (by nofun) ?_
         refine L.y rfl (Y.pickT rfl rfl) ?_
         refine L.nil (E.thenN (W.condT rfl ?_))
         refine W.seq (W.region (L.y rfl (Y.assign rfl) ?_))
         refine L.nil (E.thenN (W.ret (E.KSR (E.blockR (E.KSR (E.KLR (E.blockR (E.KSR (E.ret1 rfl rfl (fun w1 hw => ?_))))))))))
         obtain rfl := Option.some.inj h
         exact ⟨_, _, rfl, ⟨rfl, rfl⟩, hw.sel [] (by decide) rfl⟩
      ·
       rintro _ _ ⟨rfl, rfl, h⟩
       rw [m60_redo_Check_K4] at h
       refine W.seqJ (fun gs D => gs = [(3, pt b1 0), (4, .map (some b2)), (5, pt b3 0), (7, pt b7 0), (15, u0), (16, .int .i64 (a0.length : Int)), (17, .int .i64 gx1)] ∧ D = Cls w [] [.obj b7 [.int .i64 x6.Kind, .int .i64 x6.Tx, .int .i64 x6.Item, .int .i64 x6.Old, .int .i64 x6.New] 99, .obj b3 ((gl2.map I).flatten) 76, .mp b2 (mrow (VI .i64) gl3), .obj b1 ((gl4.map B).flatten) 167] ∧ m60_redo_Check_K5 x6 gl3 gl2 gx1 go1 gl4 = some r) ?_ ?_
       ·
        refine W.seq (W.region (L.y rfl (Y.fieldP fd99_1 rfl) ?_))
        refine L.y rfl (Y.loadP (i := 0) ag3 rfl rfl rfl) ?_
        refine L.m (V := fun _ => pt b1 (0 + x6.Tx.toNat * 1)) h rfl (Y.indexAM (l := gl4) Try.underlying167 sz4 rfl rfl) (fun x37 ex37 h => ?_)
        refine L.iteB h rfl (Y.loadAr (q := 3) (row := B) (j := 0) (p := .bool x37) ag4 rfl rfl rfl (fun _ => rfl) (idxA_idx ex37) rfl) (fun c38 h => ?_) (fun c38 h => ?_)
        ·
         refine L.nil (E.thenN (W.condT rfl ?_))
         refine W.seq (W.region (L.y rfl (Y.assign rfl) ?_))
         refine L.nil (E.thenN (W.ret (E.KSR (E.blockR (E.KSR (E.KLR (E.blockR (E.KSR (E.ret1 rfl rfl (fun w1 hw => ?_))))))))))
         obtain rfl := Option.some.inj h
         exact ⟨_, _, rfl, ⟨rfl, rfl⟩, hw.sel [] (by decide) rfl⟩
        ·
         refine L.nil (E.thenN (W.condF rfl ?_))
         exact W.skip (E.joinJ ⟨rfl, rfl, h⟩ ⟨rfl, rfl, rfl, rfl, rfl, rfl, rfl, trivial⟩ (fun _ hw => hw))
       ·
        rintro _ _ ⟨rfl, rfl, h⟩
        rw [m60_redo_Check_K5] at h
        refine W.seq (W.region (L.y rfl (Y.fieldP fd99_0 rfl) ?_))
        refine L.y rfl (Y.loadP (i := 0) ag3 rfl rfl rfl) ?_
        refine L.nil (E.thenN (W.block (W.seqJ (fun gs D => ∃ (gb8 : Bool), gs = [(3, pt b1 0), (4, .map (some b2)), (5, pt b3 0), (7, pt b7 0), (15, u0), (16, .int .i64 (a0.length : Int)), (17, .int .i64 gx1), (44, .int .i64 x6.Kind), (45, .bool gb8)] ∧ D = Cls w [] [.obj b7 [.int .i64 x6.Kind, .int .i64 x6.Tx, .int .i64 x6.Item, .int .i64 x6.Old, .int .i64 x6.New] 99, .obj b3 ((gl2.map I).flatten) 76, .mp b2 (mrow (VI .i64) gl3), .obj b1 ((gl4.map B).flatten) 167] ∧ m60_redo_Check_K6 gl3 x6 gl2 gx1 go1 gl4 gb8 = some r) ?_ ?_)))
        ·
         refine W.region (L.ite h rfl (Y.eql rfl rfl) (fun c36 h => ?_) (fun c36 h => ?_))
         ·
          refine L.y rfl (Y.assign rfl) ?_
          exact L.nil (E.joinJ ⟨true, rfl, rfl, h⟩ ⟨rfl, rfl, rfl, rfl, rfl, rfl, rfl, rfl, rfl, trivial⟩ (fun _ hw => hw))
         ·
          refine L.y rfl (Y.assign rfl) ?_
          exact L.nil (E.joinJ ⟨false, rfl, rfl, h⟩ ⟨rfl, rfl, rfl, rfl, rfl, rfl, rfl, rfl, rfl, trivial⟩ (fun _ hw => hw))
        ·
         rintro _ _ ⟨gb8, rfl, rfl, h⟩
         rw [m60_redo_Check_K6] at h
         rcases gb8 with _ | _
         ·
          replace h := iteF h
          refine W.condF rfl ?_
          refine W.seqJ (fun gs D => ∃ (gb9 : Bool), gs = [(3, pt b1 0), (4, .map (some b2)), (5, pt b3 0), (7, pt b7 0), (15, u0), (16, .int .i64 (a0.length : Int)), (17, .int .i64 gx1), (80, .bool gb9)] ∧ D = Cls w [] [.obj b7 [.int .i64 x6.Kind, .int .i64 x6.Tx, .int .i64 x6.Item, .int .i64 x6.Old, .int .i64 x6.New] 99, .obj b3 ((gl2.map I).flatten) 76, .mp b2 (mrow (VI .i64) gl3), .obj b1 ((gl4.map B).flatten) 167] ∧ m60_redo_Check_K7 x6 gl4 gx1 go1 gl2 gl3 gb9 = some r) ?_ ?_
          ·
           refine W.seq (W.region (L.ite h rfl (Y.eql rfl rfl) (fun c19 h => ?_) (fun c19 h => ?_)))
           ·
            refine L.y rfl (Y.assign rfl) ?_
            refine L.nil (E.thenN (W.condT rfl ?_))
            exact W.skip (E.joinJ ⟨true, rfl, rfl, h⟩ ⟨rfl, rfl, rfl, rfl, rfl, rfl, rfl, rfl, trivial⟩ (fun _ hw => hw))
           ·
            refine L.y rfl (Y.assign rfl) ?_
            refine L.nil (E.thenN (W.condF rfl ?_))
            refine W.region (L.ite h rfl (Y.eql rfl rfl) (fun c20 h => ?_) (fun c20 h => ?_))
            ·
             refine L.y rfl (Y.assign rfl) ?_
             exact L.nil (E.joinJ ⟨true, rfl, rfl, h⟩ ⟨rfl, rfl, rfl, rfl, rfl, rfl, rfl, rfl, trivial⟩ (fun _ hw => hw))
            ·
             refine L.y rfl (Y.assign rfl) ?_
             exact L.nil (E.joinJ ⟨false, rfl, rfl, h⟩ ⟨rfl, rfl, rfl, rfl, rfl, rfl, rfl, rfl, trivial⟩ (fun _ hw => hw))
          ·
           rintro _ _ ⟨gb9, rfl, rfl, h⟩
           rw [m60_redo_Check_K7] at h
           rcases gb9 with _ | _
           ·
            replace h := iteF h
            refine W.condF rfl ?_
            refine W.seq (W.region (L.y rfl (Y.assign rfl) ?_))
            refine L.nil (E.thenN (W.ret (E.blockR (E.blockR (E.KSR (E.KLR (E.blockR (E.KSR (E.ret1 rfl rfl (fun w1 hw => ?_))))))))))
            obtain rfl := Option.some.inj h
            exact ⟨_, _, rfl, ⟨rfl, rfl⟩, hw.sel [] (by decide) rfl⟩
           ·
            replace h := iteT h
            refine W.condT rfl ?_
            refine W.seqJ (fun gs D => gs = [(3, pt b1 0), (4, .map (some b2)), (5, pt b3 0), (7, pt b7 0), (15, u0), (16, .int .i64 (a0.length : Int)), (17, .int .i64 gx1)] ∧ D = Cls w [] [.obj b7 [.int .i64 x6.Kind, .int .i64 x6.Tx, .int .i64 x6.Item, .int .i64 x6.Old, .int .i64 x6.New] 99, .obj b3 ((gl2.map I).flatten) 76, .mp b2 (mrow (VI .i64) gl3), .obj b1 ((gl4.map B).flatten) 167] ∧ m60_redo_Check_K8 gl4 x6 gx1 go1 gl2 gl3 = some r) ?_ ?_
            ·
             refine W.seq (W.region (L.cutJ 8 (fun gs D => ∃ (gb12 : Bool), gs = [(3, pt b1 0), (4, .map (some b2)), (5, pt b3 0), (7, pt b7 0), (15, u0), (16, .int .i64 (a0.length : Int)), (17, .int .i64 gx1), (90, .bool gb12)] ∧ D = Cls w [] [.obj b7 [.int .i64 x6.Kind, .int .i64 x6.Tx, .int .i64 x6.Item, .int .i64 x6.Old, .int .i64 x6.New] 99, .obj b3 ((gl2.map I).flatten) 76, .mp b2 (mrow (VI .i64) gl3), .obj b1 ((gl4.map B).flatten) 167] ∧ m60_redo_Check_K9 x6 gl4 gx1 go1 gl2 gl3 gb12 = some r) ?_ ?_))
             ·
              refine L.y rfl (Y.fieldP fd99_2 rfl) ?_
              refine L.y rfl (Y.loadP (i := 0) ag3 rfl rfl rfl) ?_
              refine L.ite h rfl (Y.neq rfl rfl) (fun c17 h => ?_) (fun c17 h => ?_)
              ·
               refine L.y rfl (Y.move rfl) ?_
               refine L.pass rfl rfl (by nofun) ?_
               refine L.pass rfl rfl (by nofun) ?_
               refine L.pass rfl rfl (by nofun) ?_
               refine L.y rfl (Y.pickT rfl rfl) ?_
               exact L.nil (E.joinJ ⟨true, rfl, rfl, h⟩ ⟨rfl, rfl, rfl, rfl, rfl, rfl, rfl, rfl, trivial⟩ (fun _ hw => hw))
              ·
               refine L.y rfl (Y.move rfl) ?_
               refine L.take rfl (L.y rfl (Y.fieldP fd99_3 rfl) ?_)
               refine L.take rfl (L.y rfl (Y.loadP (i := 0) ag3 rfl rfl rfl) ?_)
               refine L.take rfl (L.ite h rfl (Y.neq rfl rfl) (fun c18 h => ?_) (fun c18 h => ?_))
               ·
                refine L.y rfl (Y.pickF rfl rfl) ?_
                exact L.nil (E.joinJ ⟨true, rfl, rfl, h⟩ ⟨rfl, rfl, rfl, rfl, rfl, rfl, rfl, rfl, trivial⟩ (fun _ hw => hw))
               ·
                refine L.y rfl (Y.pickF rfl rfl) ?_
                exact L.nil (E.joinJ ⟨false, rfl, rfl, h⟩ ⟨rfl, rfl, rfl, rfl, rfl, rfl, rfl, rfl, trivial⟩ (fun _ hw => hw))
             ·
              rintro _ _ ⟨gb12, rfl, rfl, h⟩
              rw [m60_redo_Check_K9] at h
              rcases gb12 with _ | _
              ·
               replace h := iteF h
               refine L.y rfl (Y.move rfl) ?_
               refine L.take rfl (L.y rfl (Y.fieldP fd99_4 rfl) ?_)
               refine L.take rfl (L.y rfl (Y.loadP (i := 0) ag3 rfl rfl rfl) ?_)
               refine L.take rfl (L.ite h rfl (Y.neq rfl rfl) (fun c16 h => ?_) (fun c16 h => ?_))
               ·
                refine L.y rfl (Y.pickF rfl rfl) ?_
                refine L.nil (E.thenN (W.condT rfl ?_))
                refine W.seq (W.region (L.y rfl (Y.assign rfl) ?_))
                refine L.nil (E.thenN (W.ret (E.KSR (E.blockR (E.blockR (E.KSR (E.KLR (E.blockR (E.KSR (E.ret1 rfl rfl (fun w1 hw => ?_)))))))))))
                obtain rfl := Option.some.inj h
                exact ⟨_, _, rfl, ⟨rfl, rfl⟩, hw.sel [] (by decide) rfl⟩
               ·
                refine L.y rfl (Y.pickF rfl rfl) ?_
                refine L.nil (E.thenN (W.condF rfl ?_))
                exact W.skip (E.joinJ ⟨rfl, rfl, h⟩ ⟨rfl, rfl, rfl, rfl, rfl, rfl, rfl, trivial⟩ (fun _ hw => hw))
              ·
               replace h := iteT h
               refine L.y rfl (Y.move rfl) ?_
               refine L.pass rfl rfl (by nofun) ?_
               refine L.pass rfl rfl (by nofun) ?_
               refine L.pass rfl rfl (by nofun) ?_
               refine L.y rfl (Y.pickT rfl rfl) ?_
               refine L.nil (E.thenN (W.condT rfl ?_))
               refine W.seq (W.region (L.y rfl (Y.assign rfl) ?_))
               refine L.nil (E.thenN (W.ret (E.KSR (E.blockR (E.blockR (E.KSR (E.KLR (E.blockR (E.KSR (E.ret1 rfl rfl (fun w1 hw => ?_)))))))))))
               obtain rfl := Option.some.inj h
               exact ⟨_, _, rfl, ⟨rfl, rfl⟩, hw.sel [] (by decide) rfl⟩
            ·
             rintro _ _ ⟨rfl, rfl, h⟩
             rw [m60_redo_Check_K8] at h
             refine W.seq (W.region (L.y rfl (Y.fieldP fd99_1 rfl) ?_))
             refine L.y rfl (Y.loadP (i := 0) ag3 rfl rfl rfl) ?_
             refine L.m (V := fun _ => pt b1 (0 + x6.Tx.toNat * 1)) h rfl (Y.indexAM (l := gl4) Try.underlying167 sz4 rfl rfl) (fun x8 ex8 h => ?_)
             refine L.storeArM (q := 3) (row := B) (vs := [.bool true]) (j := 0) (u1 := true) h sz4 rfl rfl rfl rfl rfl (all1 rfl all0) rfl (fun _ => rfl) (idxA_idx ex8) rfl rfl ?_
             intro l9 el9 h
             refine L.nil (E.thenN (W.seq (W.region (L.y rfl (Y.move rfl) ?_))))
             refine L.rangeM (i := 2) (g := (VI .i64)) (lm := gl3) rfl Try.underlying160 rfl rfl ?_
             intro b10
             refine L.nil (E.thenN (W.block (W.loopJ (fun m gs D => ∃ (gl10 : (List (Int × Int))) (gl11 : (List (Int × Int))), gs = [(3, pt b1 0), (4, .map (some b2)), (5, pt b3 0), (7, pt b7 0), (15, u0), (16, .int .i64 (a0.length : Int)), (17, .int .i64 gx1), (100, pt b10 0)] ∧ D = Cls w [] [.mi b2 b10 (mrow (VI .i64) gl10) (mrow (VI .i64) gl11) none, .obj b7 [.int .i64 x6.Kind, .int .i64 x6.Tx, .int .i64 x6.Item, .int .i64 x6.Old, .int .i64 x6.New] 99, .obj b3 ((gl2.map I).flatten) 76, .obj b1 ((l9.map B).flatten) 167] ∧ m60_redo_Check_L2 gx1 go1 gl2 l9 x6 m gl10 gl11 = some r) ⟨gl3, gl3, rfl, rfl, h⟩ ⟨rfl, rfl, rfl, rfl, rfl, rfl, rfl, rfl, trivial⟩ (fun _ hw => hw) ?_)))
             rintro m _ _ ⟨gl10, gl11, rfl, rfl, h⟩
             rcases m with _ | m
             · rw [m60_redo_Check_L2] at h; cases h
             rw [m60_redo_Check_L2] at h
             generalize hg2 : m60_redo_Check_L2 gx1 go1 gl2 l9 x6 m = go2 at h
             rw [m60_redo_Check_L2B] at h
             refine W.seq (W.region (L.nextM (i := 0) (g := (VI .i64)) (lm := gl10) (left := gl11) h rfl rfl rfl (fun h => ?_) (fun x11 x12 l13 h => ?_)))
             ·
              refine L.y rfl (Y.extract rfl rfl) ?_
              refine L.nil (E.thenN (W.seq (W.condF rfl ?_)))
              exact W.exit (E.thenX (E.KLX (E.blockX (E.blockN (E.blockN (E.joinJ ⟨gl2, gl10, l9, rfl, rfl, h⟩ ⟨rfl, rfl, rfl, rfl, rfl, rfl, trivial⟩ (fun _ hw => hw.sel [2, 0, 3] (by decide) rfl)))))))
             ·
              refine L.y rfl (Y.extract rfl rfl) ?_
              refine L.nil (E.thenN (W.seq (W.condT rfl ?_)))
              refine W.skip (E.thenN (W.block (W.seq (W.region (L.y rfl (Y.entryM (i := 0) (g := (VI .i64)) (lm := gl10) (k0 := x11) (v0 := x12) rfl rfl) ?_)))))
              refine L.y rfl (Y.extract rfl rfl) ?_
              refine L.y rfl (Y.extract rfl rfl) ?_
              refine L.y rfl (Y.assign rfl) ?_
              refine L.y rfl (Y.assign rfl) ?_
              refine L.nil (E.thenN (W.seq (W.region (L.y rfl (Y.move rfl) ?_))))
              refine L.y rfl (Y.fieldP fd99_1 rfl) ?_
              refine L.y rfl (Y.loadP (i := 1) ag3 rfl rfl rfl) ?_
              refine L.m (V := fun x14 => .int .i64 x14) h rfl (Y.addM rfl rfl) (fun x14 ex14 h => ?_)
              refine L.ite h rfl (Y.eql rfl rfl) (fun c15 h => ?_) (fun c15 h => ?_)
              ·
               refine L.nil (E.thenN (W.condT rfl ?_))
               refine W.region (L.y rfl (Y.move rfl) ?_)
               refine L.y rfl (Y.move rfl) ?_
               refine L.mapDelI (i := 0) (g := (VI .i64)) (lm := gl10) (left := l13) Try.underlying160 Try.underlying3 rfl rfl rfl ?_
               exact L.nil (E.blockN (E.againJ ⟨(mdel gl10 x11), (mdel l13 x11), rfl, rfl, by rw [hg2]; exact h⟩ (Nat.lt_succ_self _) ⟨rfl, rfl, rfl, rfl, rfl, rfl, rfl, rfl, trivial⟩ (fun _ hw => hw)))
              ·
               refine L.nil (E.thenN (W.condF rfl ?_))
               exact W.skip (E.blockN (E.againJ ⟨gl10, l13, rfl, rfl, by rw [hg2]; exact h⟩ (Nat.lt_succ_self _) ⟨rfl, rfl, rfl, rfl, rfl, rfl, rfl, rfl, trivial⟩ (fun _ hw => (hw.miNone (i := 0) rfl))))
         ·
          replace h := iteT h
          refine W.condT rfl ?_
          refine W.seqJ (fun gs D => gs = [(3, pt b1 0), (4, .map (some b2)), (5, pt b3 0), (7, pt b7 0), (15, u0), (16, .int .i64 (a0.length : Int)), (17, .int .i64 gx1)] ∧ D = Cls w [] [.obj b7 [.int .i64 x6.Kind, .int .i64 x6.Tx, .int .i64 x6.Item, .int .i64 x6.Old, .int .i64 x6.New] 99, .obj b3 ((gl2.map I).flatten) 76, .mp b2 (mrow (VI .i64) gl3), .obj b1 ((gl4.map B).flatten) 167] ∧ m60_redo_Check_K10 x6 gl3 gl2 gx1 go1 gl4 = some r) ?_ ?_
          ·
           refine W.seq (W.region (L.y rfl (Y.move rfl) ?_))
           refine L.y rfl (Y.fieldP fd99_2 rfl) ?_
           refine L.y rfl (Y.loadP (i := 0) ag3 rfl rfl rfl) ?_
           refine L.y rfl (Y.lookupM (i := 2) (g := (VI .i64)) (lm := gl3) (z0 := 0) Try.underlying160 Try.underlying3 (by kernel_rfl) rfl rfl rfl rfl) ?_
           refine L.y rfl (Y.assign rfl) ?_
           refine L.nil (E.thenN (W.seq (W.quietC mixed (by kernel_rfl) (fun _ hw => hw.drew) (fun hC => ?_))))
           refine U.cutJ hC 9 (fun gs => ∃ (gb13 : Bool), gs = [(3, pt b1 0), (4, .map (some b2)), (5, pt b3 0), (7, pt b7 0), (15, u0), (16, .int .i64 (a0.length : Int)), (17, .int .i64 gx1), (59, .bool gb13)] ∧ m60_redo_Check_K11 gl2 x6 gl3 gx1 go1 gl4 gb13 = some r) ?_ ?_
           ·
            refine U.y rfl (Y.move rfl) ?_
            refine U.ite h rfl (Y.neq rfl rfl) (fun c33 h => ?_) (fun c33 h => ?_)
            ·
             refine U.y rfl (Y.move rfl) ?_
             refine U.take rfl (U.y rfl (Y.move rfl) ?_)
             refine U.take rfl (U.y rfl (Y.fieldP fd99_1 rfl) ?_)
             refine U.take rfl (U.y rfl (Y.loadP (i := 0) ag3 rfl rfl rfl) ?_)
             refine U.take rfl (U.m (V := fun x34 => .int .i64 x34) h rfl (Y.addM rfl rfl) (fun x34 ex34 h => ?_))
             refine U.take rfl (U.ite h rfl (Y.neq rfl rfl) (fun c35 h => ?_) (fun c35 h => ?_))
             ·
              refine U.y rfl (Y.pickT rfl rfl) ?_
              exact U.nil (E.joinU ⟨true, rfl, h⟩ ⟨rfl, rfl, rfl, rfl, rfl, rfl, rfl, rfl, trivial⟩)
             ·
              refine U.y rfl (Y.pickT rfl rfl) ?_
              exact U.nil (E.joinU ⟨false, rfl, h⟩ ⟨rfl, rfl, rfl, rfl, rfl, rfl, rfl, rfl, trivial⟩)
            ·
             refine U.y rfl (Y.move rfl) ?_
             refine U.pass rfl rfl (by nofun) ?_
             refine U.pass rfl rfl (by nofun) ?_
             refine U.pass rfl rfl (by nofun) ?_
             refine U.pass rfl rfl (by nofun) ?_
             refine U.pass rfl rfl (by nofun) ?_
             refine U.y rfl (Y.pickF rfl rfl) ?_
             exact U.nil (E.joinU ⟨false, rfl, h⟩ ⟨rfl, rfl, rfl, rfl, rfl, rfl, rfl, rfl, trivial⟩)
           ·
            rintro _ ⟨gb13, rfl, h⟩
            rw [m60_redo_Check_K11] at h
            rcases gb13 with _ | _
            ·
             replace h := iteF h
             refine U.y rfl (Y.move rfl) ?_
             refine U.take rfl (U.y rfl (Y.fieldP fd99_3 rfl) ?_)
             refine U.take rfl (U.y rfl (Y.loadP (i := 0) ag3 rfl rfl rfl) ?_)
             refine U.take rfl (U.y rfl (Y.fieldP fd99_2 rfl) ?_)
             refine U.take rfl (U.y rfl (Y.loadP (i := 0) ag3 rfl rfl rfl) ?_)
             refine U.take rfl (U.m (V := fun _ => pt b3 (0 + x6.Item.toNat * 1)) h rfl (Y.indexAM (l := gl2) Try.underlying76 sz3 rfl rfl) (fun x31 ex31 h => ?_))
             refine U.take rfl (U.y rfl (Y.loadAr (q := 1) (row := I) (j := 0) (p := .int .i64 x31) ag3 rfl rfl rfl (fun _ => rfl) (idxA_idx ex31) rfl) ?_)
             refine U.take rfl (U.ite h rfl (Y.neq rfl rfl) (fun c32 h => ?_) (fun c32 h => ?_))
             ·
              refine U.y rfl (Y.pickF rfl rfl) ?_
              refine U.nil (E.thenN (W.condT rfl ?_))
              refine W.seq (W.region (L.y rfl (Y.assign rfl) ?_))
              refine L.nil (E.thenN (W.ret (E.KSR (E.blockR (E.blockR (E.KSR (E.KLR (E.blockR (E.KSR (E.ret1 rfl rfl (fun w1 hw => ?_)))))))))))
              obtain rfl := Option.some.inj h
              exact ⟨_, _, rfl, ⟨rfl, rfl⟩, hw.sel [] (by decide) rfl⟩
             ·
              refine U.y rfl (Y.pickF rfl rfl) ?_
              refine U.nil (E.thenN (W.condF rfl ?_))
              exact W.skip (E.joinJ ⟨rfl, rfl, h⟩ ⟨rfl, rfl, rfl, rfl, rfl, rfl, rfl, trivial⟩ (fun _ hw => hw))
            ·
             replace h := iteT h
             refine U.y rfl (Y.move rfl) ?_
             refine U.pass rfl rfl (by nofun) ?_
             refine U.pass rfl rfl (by nofun) ?_
             refine U.pass rfl rfl (by nofun) ?_
             refine U.pass rfl rfl (by nofun) ?_
             refine U.pass rfl rfl (by nofun) ?_
             refine U.pass rfl rfl (by nofun) ?_
             refine U.pass rfl rfl (by nofun) ?_
             refine U.y rfl (Y.pickT rfl rfl) ?_
             refine U.nil (E.thenN (W.condT rfl ?_))
             refine W.seq (W.region (L.y rfl (Y.assign rfl) ?_))
             refine L.nil (E.thenN (W.ret (E.KSR (E.blockR (E.blockR (E.KSR (E.KLR (E.blockR (E.KSR (E.ret1 rfl rfl (fun w1 hw => ?_)))))))))))
             obtain rfl := Option.some.inj h
             exact ⟨_, _, rfl, ⟨rfl, rfl⟩, hw.sel [] (by decide) rfl⟩
          ·
           rintro _ _ ⟨rfl, rfl, h⟩
           rw [m60_redo_Check_K10] at h
           refine W.drawn2 (k := 13) (stC [[10, 12], [12]] [Cls w [] [.obj b7 [.int .i64 x6.Kind, .int .i64 x6.Tx, .int .i64 x6.Item, .int .i64 x6.Old, .int .i64 x6.New] 99, .obj b3 ((gl2.map I).flatten) 76, .mp b2 (mrow (VI .i64) gl3), .obj b1 ((gl4.map B).flatten) 167], Cls w [] [.obj b7 [.int .i64 x6.Kind, .int .i64 x6.Tx, .int .i64 x6.Item, .int .i64 x6.Old, .int .i64 x6.New] 99, .obj b3 ((gl2.map I).flatten) 76, .obj b1 ((gl4.map B).flatten) 167]] (Cls w [] [.obj b7 [.int .i64 x6.Kind, .int .i64 x6.Tx, .int .i64 x6.Item, .int .i64 x6.Old, .int .i64 x6.New] 99, .obj b1 ((gl4.map B).flatten) 167])) rfl mixed (fun _ hw => hw.drew) (Sc.now (by kernel_rfl) (fun _ hw => hw)) ?_
           refine V2.y (i := 0) (Nx2.of (Z := Cls w [] [.obj b7 [.int .i64 x6.Kind, .int .i64 x6.Tx, .int .i64 x6.Item, .int .i64 x6.Old, .int .i64 x6.New] 99, .obj b1 ((gl4.map B).flatten) 167]) [] (by kernel_rfl) rfl (Zc.on (fun _ hw => hw.sel [0, 3] (by decide) rfl) (Zc.on (fun _ hw => hw.sel [0, 2] (by decide) rfl) (Zc.fin (fun _ hw => hw))))) rfl rfl rfl (Y.move rfl) ?_
           refine V2.y (i := 1) (Nx2.of (Z := Cls w [] [.obj b7 [.int .i64 x6.Kind, .int .i64 x6.Tx, .int .i64 x6.Item, .int .i64 x6.Old, .int .i64 x6.New] 99, .obj b1 ((gl4.map B).flatten) 167]) [] (by kernel_rfl) rfl (Zc.on (fun _ hw => hw.sel [0, 3] (by decide) rfl) (Zc.on (fun _ hw => hw.sel [0, 2] (by decide) rfl) (Zc.fin (fun _ hw => hw))))) rfl rfl rfl (Y.fieldP fd99_2 rfl) ?_
           refine V2.y (i := 2) (Nx2.of (Z := Cls w [] [.obj b7 [.int .i64 x6.Kind, .int .i64 x6.Tx, .int .i64 x6.Item, .int .i64 x6.Old, .int .i64 x6.New] 99, .obj b1 ((gl4.map B).flatten) 167]) [] (by kernel_rfl) rfl (Zc.on (fun _ hw => hw.sel [0, 3] (by decide) rfl) (Zc.on (fun _ hw => hw.sel [0, 2] (by decide) rfl) (Zc.fin (fun _ hw => hw))))) rfl rfl rfl (Y.loadP (i := 0) ag3 rfl rfl rfl) ?_
           refine V2.y (i := 3) (Nx2.of (Z := Cls w [] [.obj b7 [.int .i64 x6.Kind, .int .i64 x6.Tx, .int .i64 x6.Item, .int .i64 x6.Old, .int .i64 x6.New] 99, .obj b1 ((gl4.map B).flatten) 167]) [] (by kernel_rfl) rfl (Zc.on (fun _ hw => hw.sel [0, 3] (by decide) rfl) (Zc.on (fun _ hw => hw.sel [0, 2] (by decide) rfl) (Zc.fin (fun _ hw => hw))))) rfl rfl rfl (Y.fieldP fd99_2 rfl) ?_
           refine V2.y (i := 4) (Nx2.of (Z := Cls w [] [.obj b7 [.int .i64 x6.Kind, .int .i64 x6.Tx, .int .i64 x6.Item, .int .i64 x6.Old, .int .i64 x6.New] 99, .obj b1 ((gl4.map B).flatten) 167]) [] (by kernel_rfl) rfl (Zc.on (fun _ hw => hw.sel [0, 3] (by decide) rfl) (Zc.on (fun _ hw => hw.sel [0, 2] (by decide) rfl) (Zc.fin (fun _ hw => hw))))) rfl rfl rfl (Y.loadP (i := 0) ag3 rfl rfl rfl) ?_
           refine V2.y (i := 5) (Nx2.of (Z := Cls w [] [.obj b7 [.int .i64 x6.Kind, .int .i64 x6.Tx, .int .i64 x6.Item, .int .i64 x6.Old, .int .i64 x6.New] 99, .obj b1 ((gl4.map B).flatten) 167]) [] (by kernel_rfl) rfl (Zc.on (fun _ hw => hw.sel [0, 3] (by decide) rfl) (Zc.on (fun _ hw => hw.sel [0, 2] (by decide) rfl) (Zc.fin (fun _ hw => hw))))) rfl rfl rfl (Y.fieldP fd99_1 rfl) ?_
           refine V2.y (i := 6) (Nx2.of (Z := Cls w [] [.obj b7 [.int .i64 x6.Kind, .int .i64 x6.Tx, .int .i64 x6.Item, .int .i64 x6.Old, .int .i64 x6.New] 99, .obj b1 ((gl4.map B).flatten) 167]) [] (by kernel_rfl) rfl (Zc.on (fun _ hw => hw.sel [0, 3] (by decide) rfl) (Zc.on (fun _ hw => hw.sel [0, 2] (by decide) rfl) (Zc.fin (fun _ hw => hw))))) rfl rfl rfl (Y.loadP (i := 0) ag3 rfl rfl rfl) ?_
           refine V2.m (i := 7) (V' := fun x27 => .int .i64 x27) h (Nx2.of (Z := Cls w [] [.obj b7 [.int .i64 x6.Kind, .int .i64 x6.Tx, .int .i64 x6.Item, .int .i64 x6.Old, .int .i64 x6.New] 99, .obj b1 ((gl4.map B).flatten) 167]) [] (by kernel_rfl) rfl (Zc.on (fun _ hw => hw.sel [0, 3] (by decide) rfl) (Zc.on (fun _ hw => hw.sel [0, 2] (by decide) rfl) (Zc.fin (fun _ hw => hw))))) rfl rfl rfl (Y.addM rfl rfl) (fun x27 ex27 h => ?_)
           refine V2.y (i := 8) (Nx2.of (Z := Cls w [] [.obj b7 [.int .i64 x6.Kind, .int .i64 x6.Tx, .int .i64 x6.Item, .int .i64 x6.Old, .int .i64 x6.New] 99, .obj b1 ((gl4.map B).flatten) 167]) [] (by kernel_rfl) rfl (Zc.on (fun _ hw => hw.sel [0, 3] (by decide) rfl) (Zc.on (fun _ hw => hw.sel [0, 2] (by decide) rfl) (Zc.fin (fun _ hw => hw))))) rfl rfl rfl (Y.fieldP fd99_4 rfl) ?_
           refine V2.y (i := 9) (Nx2.of (Z := Cls w [] [.obj b7 [.int .i64 x6.Kind, .int .i64 x6.Tx, .int .i64 x6.Item, .int .i64 x6.Old, .int .i64 x6.New] 99, .obj b1 ((gl4.map B).flatten) 167]) [] (by kernel_rfl) rfl (Zc.on (fun _ hw => hw.sel [0, 3] (by decide) rfl) (Zc.on (fun _ hw => hw.sel [0, 2] (by decide) rfl) (Zc.fin (fun _ hw => hw))))) rfl rfl rfl (Y.loadP (i := 0) ag3 rfl rfl rfl) ?_
           refine V2.eff (i := 10) (by kernel_rfl) rfl ?_
           refine L.mapSet (i := 2) (g := (VI .i64)) (lm := gl3) (v0 := x27) Try.underlying160 Try.underlying3 rfl rfl rfl rfl ?_
           obtain ⟨l28, el28, h⟩ := bind1S h
           obtain rfl := Option.some.inj el28
           refine L.nil (E.toV2 (stC [[12]] [Cls w [] [.obj b7 [.int .i64 x6.Kind, .int .i64 x6.Tx, .int .i64 x6.Item, .int .i64 x6.Old, .int .i64 x6.New] 99, .obj b3 ((gl2.map I).flatten) 76, .obj b1 ((gl4.map B).flatten) 167]] (Cls w [] [.obj b7 [.int .i64 x6.Kind, .int .i64 x6.Tx, .int .i64 x6.Item, .int .i64 x6.Old, .int .i64 x6.New] 99, .obj b1 ((gl4.map B).flatten) 167])) 10 (by kernel_rfl) (Sc.past rfl (Sc.stay (fun _ hw => hw) (Sc.stayD (fun _ hw => hw)))) (Sc.now (by kernel_rfl) (fun _ hw => hw.sel [0, 1, 3] (by decide) rfl)) ?_)
           refine V2.m (i := 11) (V' := fun _ => pt b3 (0 + x6.Item.toNat * 1)) h (Nx2.of (Z := Cls w [] [.obj b7 [.int .i64 x6.Kind, .int .i64 x6.Tx, .int .i64 x6.Item, .int .i64 x6.Old, .int .i64 x6.New] 99, .obj b3 ((gl2.map I).flatten) 76, .obj b1 ((gl4.map B).flatten) 167]) [12] (by kernel_rfl) rfl (Zc.at1 (fun _ hw => hw))) rfl rfl rfl (Y.indexAM (l := gl2) Try.underlying76 sz3 rfl rfl) (fun x29 ex29 h => ?_)
           refine V2.eff (i := 12) (by kernel_rfl) rfl ?_
           refine L.storeArM (q := 1) (row := I) (vs := [.int .i64 x6.New]) (j := 0) (u1 := x6.New) h sz3 rfl rfl rfl rfl rfl (all1 rfl all0) rfl (fun _ => rfl) (idxA_idx ex29) rfl rfl ?_
           intro l30 el30 h
           refine L.nil (E.toV2 (stC [] [] (Cls w [] [.obj b7 [.int .i64 x6.Kind, .int .i64 x6.Tx, .int .i64 x6.Item, .int .i64 x6.Old, .int .i64 x6.New] 99, .obj b1 ((gl4.map B).flatten) 167])) 12 (by kernel_rfl) (Sc.past rfl (Sc.stayD (fun _ hw => hw))) (Sc.atD (fun _ hw => hw.sel [0, 3] (by decide) rfl)) ?_)
           refine V2.done (by kernel_rfl) ?_
           exact E.blockN (E.blockN (E.joinJ ⟨l30, mset gl3 x6.Item x27, gl4, rfl, rfl, h⟩ ⟨rfl, rfl, rfl, rfl, rfl, rfl, trivial⟩ (fun _ hw => hw.sel [1, 2, 3] (by decide) rfl)))
     ·
      rintro _ _ ⟨gl5, gl6, gl7, rfl, rfl, h⟩
      rw [m60_redo_Check_K3] at h
      refine W.region (L.m (V := fun x5 => .int .i64 x5) h rfl (Y.addM rfl rfl) (fun x5 ex5 h => ?_))
      refine L.y rfl (Y.move rfl) ?_
      exact L.nil (E.againJ ⟨x5, gl5, gl6, gl7, rfl, rfl, by rw [hg1]; exact h⟩ (Nat.lt_succ_self _) ⟨rfl, rfl, rfl, rfl, rfl, rfl, trivial⟩ (fun _ hw => hw))
    ·
     refine L.nil (E.thenN (W.seq (W.condF rfl ?_)))
     exact W.exit (E.thenX (E.KLX (E.blockX (E.joinJ ⟨rfl, rfl, h⟩ trivial (fun _ hw => hw.sel [] (by decide) rfl)))))
   ·
    rintro _ _ ⟨rfl, rfl, h⟩
    rw [m60_redo_Check_K2] at h
    refine W.seq (W.region (L.y rfl (Y.assign rfl) ?_))
    refine L.nil (E.thenN (W.ret (E.ret1 rfl rfl (fun w1 hw => ?_))))
    obtain rfl := Option.some.inj h
    exact ⟨_, _, rfl, ⟨rfl, rfl⟩, hw⟩
set_option maxRecDepth 100000 in
set_option maxHeartbeats 8000000 in
theorem w58_redo_Pages (a0 : (List TRec)) (a1 : (List Int)) (u0 : Value) (w : World) (r : ((List TPage) × Int)) (h : m58_redo_Pages a0 a1 = some r) (hA0 : At w u0 5 (a0.map TRec.row)) : Does Try.prog 58 [u0, .agg (a1.map I).flatten.toArray] w fun u m => u = .tuple #[.agg (r.1.map TPage.row).flatten.toArray, .int .i64 r.2] ∧ m = [] := by
  rw [m58_redo_Pages] at h
  refine body (n := 44) Try.func58 rfl rfl rfl (Cls.refl w) ?_
  refine W.seq (W.region (L.box rfl rfl ?_))
  intro b1
  refine L.to (D := Cls w [] [.obj b1 ((a1.map I).flatten) 76]) (fun _ hw => hw) ?_
  refine L.alloc rfl ze88 ?_
  intro b2
  refine L.to (D := Cls w [] [.obj b2 (((List.replicate 20 ((⟨0, 0⟩ : TPage) : TPage)).map TPage.row).flatten) 88, .obj b1 ((a1.map I).flatten) 76]) (fun _ hw => by first | exact hw | simpa [I, B, SR] using hw) ?_
  refine L.y rfl (Y.assign rfl) ?_
  refine L.nil (E.thenN (W.seq (W.region (L.alloc rfl ze88 ?_))))
  intro b3
  refine L.to (D := Cls w [] [.obj b3 (((List.replicate 20 ((⟨0, 0⟩ : TPage) : TPage)).map TPage.row).flatten) 88, .obj b2 (((List.replicate 20 ((⟨0, 0⟩ : TPage) : TPage)).map TPage.row).flatten) 88, .obj b1 ((a1.map I).flatten) 76]) (fun _ hw => by first | exact hw | simpa [I, B, SR] using hw) ?_
  refine L.nil (E.thenN (W.seqJ (fun gs D => gs = [(0, u0), (3, pt b1 0), (4, pt b2 0), (6, pt b3 0)] ∧ D = Cls w [] [.obj b3 (((List.replicate 20 ((⟨0, 0⟩ : TPage) : TPage)).map TPage.row).flatten) 88, .obj b2 (((List.replicate 20 ((⟨0, 0⟩ : TPage) : TPage)).map TPage.row).flatten) 88, .obj b1 ((a1.map I).flatten) 76] ∧ m58_redo_Pages_K1 a0 a1 = some r) ?_ ?_))
  ·
   refine W.seq (W.region (L.y rfl (Y.move rfl) ?_))
   obtain ⟨x20, e21, h⟩ := bind1S h
   refine L.y rfl (Y.does en60 rfl (fun w' hw => (w60_redo_Check a0 u0 w' _ e21 (hA0.cls0 hw)).mono (fun _ _ h => h.1))) ?_
   refine L.y rfl (Y.assign rfl) ?_
   refine L.nil (E.thenN (W.seq (W.region (L.y rfl (Y.move rfl) ?_))))
   refine L.ite h rfl (Y.neq rfl rfl) (fun c22 h => ?_) (fun c22 h => ?_)
   ·
    refine L.nil (E.thenN (W.condT rfl ?_))
    refine W.seq (W.region ?_)
    obtain ⟨_, en23, h⟩ := bind1S h
    obtain ⟨_, en23⟩ := arrN_some en23
    refine L.y rfl (Y.loadArAll (q := 0) (row := TPage.row) (k := 2) ag88 sz88 rfl rfl (fun _ => rfl) (by rw [en23])) ?_
    refine L.y rfl (Y.move rfl) ?_
    obtain ⟨_, en24, h⟩ := bind1S h
    obtain ⟨_, en24⟩ := arrN_some en24
    obtain ⟨_, en25, h⟩ := bind1S h
    obtain ⟨_, en25⟩ := arrN_some en25
    refine L.storeArW (i := 1) (row := TPage.row) (k := 2) en24 en25 rfl (fun _ => rfl) (plain_TPage _) sz88 rfl rfl rfl ?_
    refine L.y rfl (Y.assign rfl) ?_
    refine L.nil (E.thenN (W.ret (E.KSR ?_)))
    obtain ⟨_, en26, h⟩ := bind1S h
    obtain ⟨_, en26⟩ := arrN_some en26
    refine E.retR2 rfl (Rv.cellAr (i := 1) (row := TPage.row) (k := 2) ag88 sz88 rfl rfl (fun _ => rfl) (by rw [en26])) (Rv.tmp rfl) (fun w1 hw => ?_)
    obtain rfl := Option.some.inj h
    exact ⟨_, _, rfl, ⟨rfl, rfl⟩, hw.sel [] (by decide) rfl⟩
   ·
    refine L.nil (E.thenN (W.condF rfl ?_))
    exact W.skip (E.joinJ ⟨rfl, rfl, h⟩ ⟨rfl, rfl, rfl, rfl, trivial⟩ (fun _ hw => hw))
  ·
   rintro _ _ ⟨rfl, rfl, h⟩
   rw [m58_redo_Pages_K1] at h
   refine W.seqJ (fun gs D => ∃ (gl1 : (List TPage)), gs = [(4, pt b2 0), (6, pt b3 0)] ∧ D = Cls w [] [.obj b3 ((gl1.map TPage.row).flatten) 88, .obj b2 (((List.replicate 20 ((⟨0, 0⟩ : TPage) : TPage)).map TPage.row).flatten) 88] ∧ m58_redo_Pages_K2 gl1 = some r) ?_ ?_
   ·
    refine W.seq (W.region (L.y rfl (Y.move rfl) ?_))
    refine L.y rfl (Y.lenM (g := TRec.row) (l := a0) Try.underlying85 rfl (fun w' hw => hA0.cls0 hw)) ?_
    refine L.y rfl (Y.move rfl) ?_
    refine L.nil (E.thenN (W.block (W.loopJ (fun m gs D => ∃ (gx2 : Int) (gl3 : (List TPage)), gs = [(3, pt b1 0), (4, pt b2 0), (6, pt b3 0), (16, u0), (17, .int .i64 (a0.length : Int)), (18, .int .i64 gx2)] ∧ D = Cls w [] [.obj b3 ((gl3.map TPage.row).flatten) 88, .obj b2 (((List.replicate 20 ((⟨0, 0⟩ : TPage) : TPage)).map TPage.row).flatten) 88, .obj b1 ((a1.map I).flatten) 76] ∧ m58_redo_Pages_L1 a0 a1 m gx2 gl3 = some r) ⟨0, (List.replicate 20 ((⟨0, 0⟩ : TPage) : TPage)), rfl, rfl, h⟩ ⟨rfl, rfl, rfl, rfl, rfl, rfl, trivial⟩ (fun _ hw => hw) ?_)))
    rintro m _ _ ⟨gx2, gl3, rfl, rfl, h⟩
    rcases m with _ | m
    · rw [m58_redo_Pages_L1] at h; cases h
    rw [m58_redo_Pages_L1] at h
    generalize hg1 : m58_redo_Pages_L1 a0 a1 m = go1 at h
    rw [m58_redo_Pages_L1B] at h
    refine W.seq (W.region (L.ite h rfl (Y.lss rfl rfl) (fun c8 h => ?_) (fun c8 h => ?_)))
    ·
     refine L.nil (E.thenN (W.seq (W.condT rfl ?_)))
     refine W.skip (E.thenN (W.seq (W.block (W.seq (W.region (L.y rfl (Y.move rfl) ?_))))))
     refine L.m (V := fun _ => el u0 (gx2.toNat * 5)) h rfl (Y.indexM (g := TRec.row) (l := a0) Try.underlying85 sz99 rfl rfl (fun w' hw => hA0.cls0 hw)) (fun x9 ex9 h => ?_)
     refine L.y rfl (Y.loadEN (r := [.int .i64 x9.Kind, .int .i64 x9.Tx, .int .i64 x9.Item, .int .i64 x9.Old, .int .i64 x9.New]) ag99 sz99 rfl (fun w' hw => hA0.cls0 hw) (idx_map ex9) rfl) ?_
     refine L.alloc rfl ze99 ?_
     intro b10
     refine L.y rfl (Y.assign rfl) ?_
     refine L.store (i := 0) (vs := [.int .i64 x9.Kind, .int .i64 x9.Tx, .int .i64 x9.Item, .int .i64 x9.Old, .int .i64 x9.New]) sz99 rfl rfl rfl rfl (by simp [Value.oneCell', Value.cells, st, pt]) rfl (Nat.le_of_ble_eq_true rfl) ?_
     refine L.nil (E.thenN (W.seq (W.region (L.y rfl (Y.fieldP fd99_0 rfl) ?_))))
     refine L.y rfl (Y.loadP (i := 0) ag3 rfl rfl rfl) ?_
     refine L.ite h rfl (Y.eql rfl rfl) (fun c11 h => ?_) (fun c11 h => ?_)
     ·
      refine L.y rfl (Y.move rfl) ?_
      refine L.take rfl (L.y rfl (Y.move rfl) ?_)
      refine L.take rfl (L.y rfl (Y.fieldP fd99_2 rfl) ?_)
      refine L.take rfl (L.y rfl (Y.loadP (i := 0) ag3 rfl rfl rfl) ?_)
      refine L.take rfl (L.m (V := fun _ => pt b1 (0 + x9.Item.toNat * 1)) h rfl (Y.indexAM (l := a1) Try.underlying76 sz3 rfl rfl) (fun x12 ex12 h => ?_))
      refine L.take rfl (L.y rfl (Y.loadAr (q := 3) (row := I) (j := 0) (p := .int .i64 x12) ag3 rfl rfl rfl (fun _ => rfl) (idxA_idx ex12) rfl) ?_)
      refine L.take rfl (L.ite h rfl (Y.lss rfl rfl) (fun c13 h => ?_) (fun c13 h => ?_))
      ·
       refine L.y rfl (Y.pickT rfl rfl) ?_
       refine L.nil (E.thenN (W.condT rfl ?_))
       refine W.region (L.y rfl (Y.fieldP fd99_2 rfl) ?_)
       refine L.y rfl (Y.loadP (i := 0) ag3 rfl rfl rfl) ?_
       refine L.y rfl (Y.fieldP fd99_4 rfl) ?_
       refine L.y rfl (Y.loadP (i := 0) ag3 rfl rfl rfl) ?_
       refine L.y rfl (Y.move rfl) ?_
       refine L.m (V := fun x14 => .int .i64 x14) h rfl (Y.addM rfl rfl) (fun x14 ex14 h => ?_)
       refine L.y rfl (Y.build (cells := #[.int .i64 x9.New, .int .i64 x14]) rfl (by kernel_rfl)) ?_
       refine L.m (V := fun _ => pt b3 (0 + x9.Item.toNat * 2)) h rfl (Y.indexAM (l := gl3) Try.underlying88 sz87 rfl rfl) (fun x15 ex15 h => ?_)
       refine L.storeArM (q := 1) (row := TPage.row) (vs := [.int .i64 x9.New, .int .i64 x14]) (j := 0) (u1 := (⟨x9.New, x14⟩ : TPage)) h sz87 rfl rfl rfl rfl rfl (all1 rfl (all1 rfl all0)) rfl (fun _ => rfl) (idxA_idx ex15) rfl rfl ?_
       intro l16 el16 h
       refine L.nil (E.blockN (E.thenN (W.region (L.m (V := fun x17 => .int .i64 x17) h rfl (Y.addM rfl rfl) (fun x17 ex17 h => ?_)))))
       refine L.y rfl (Y.move rfl) ?_
       exact L.nil (E.againJ ⟨x17, l16, rfl, rfl, by rw [hg1]; exact h⟩ (Nat.lt_succ_self _) ⟨rfl, rfl, rfl, rfl, rfl, rfl, trivial⟩ (fun _ hw => hw.sel [1, 2, 3] (by decide) rfl))
      ·
       refine L.y rfl (Y.pickT rfl rfl) ?_
       refine L.nil (E.thenN (W.condF rfl ?_))
       refine W.skip (E.blockN (E.thenN (W.region (L.m (V := fun x18 => .int .i64 x18) h rfl (Y.addM rfl rfl) (fun x18 ex18 h => ?_)))))
       refine L.y rfl (Y.move rfl) ?_
       exact L.nil (E.againJ ⟨x18, gl3, rfl, rfl, by rw [hg1]; exact h⟩ (Nat.lt_succ_self _) ⟨rfl, rfl, rfl, rfl, rfl, rfl, trivial⟩ (fun _ hw => hw.sel [1, 2, 3] (by decide) rfl))
     ·
      refine L.y rfl (Y.move rfl) ?_
      refine L.pass rfl rfl (by nofun) ?_
      refine L.pass rfl rfl (by nofun) ?_
      refine L.pass rfl rfl (by nofun) ?_
      refine L.pass rfl rfl (by nofun) ?_
      refine L.pass rfl rfl (by nofun) ?_
      refine L.pass rfl rfl (by nofun) ?_
      refine L.y rfl (Y.pickF rfl rfl) ?_
      refine L.nil (E.thenN (W.condF rfl ?_))
      refine W.skip (E.blockN (E.thenN (W.region (L.m (V := fun x19 => .int .i64 x19) h rfl (Y.addM rfl rfl) (fun x19 ex19 h => ?_)))))
      refine L.y rfl (Y.move rfl) ?_
      exact L.nil (E.againJ ⟨x19, gl3, rfl, rfl, by rw [hg1]; exact h⟩ (Nat.lt_succ_self _) ⟨rfl, rfl, rfl, rfl, rfl, rfl, trivial⟩ (fun _ hw => hw.sel [1, 2, 3] (by decide) rfl))
    ·
     refine L.nil (E.thenN (W.seq (W.condF rfl ?_)))
     exact W.exit (E.thenX (E.KLX (E.blockX (E.joinJ ⟨gl3, rfl, rfl, h⟩ ⟨rfl, rfl, trivial⟩ (fun _ hw => hw.sel [0, 1] (by decide) rfl)))))
   ·
    rintro _ _ ⟨gl1, rfl, rfl, h⟩
    rw [m58_redo_Pages_K2] at h
    refine W.seq (W.region ?_)
    obtain ⟨_, en4, h⟩ := bind1S h
    obtain ⟨_, en4⟩ := arrN_some en4
    refine L.y rfl (Y.loadArAll (q := 0) (row := TPage.row) (k := 2) ag88 sz88 rfl rfl (fun _ => rfl) (by rw [en4])) ?_
    obtain ⟨_, en5, h⟩ := bind1S h
    obtain ⟨_, en5⟩ := arrN_some en5
    obtain ⟨_, en6, h⟩ := bind1S h
    obtain ⟨_, en6⟩ := arrN_some en6
    refine L.storeArW (i := 1) (row := TPage.row) (k := 2) en5 en6 rfl (fun _ => rfl) (plain_TPage _) sz88 rfl rfl rfl ?_
    refine L.y rfl (Y.assign rfl) ?_
    refine L.nil (E.thenN (W.ret ?_))
    obtain ⟨_, en7, h⟩ := bind1S h
    obtain ⟨_, en7⟩ := arrN_some en7
    refine E.retR2 rfl (Rv.cellAr (i := 1) (row := TPage.row) (k := 2) ag88 sz88 rfl rfl (fun _ => rfl) (by rw [en7])) (Rv.tmp rfl) (fun w1 hw => ?_)
    obtain rfl := Option.some.inj h
    exact ⟨_, _, rfl, ⟨rfl, rfl⟩, hw.sel [] (by decide) rfl⟩
set_option maxRecDepth 100000 in
set_option maxHeartbeats 8000000 in
theorem w113_api_Rec (a0 : (List TRec)) (u0 : Value) (w : World) (r : (List TRec)) (h : m113_api_Rec a0 = some r) (hA0 : At w u0 5 (a0.map TRec.row)) : Does Try.prog 113 [u0] w fun u m => ∃ v0, u = v0 ∧ m = [.sl v0 99 5 (r.map TRec.row)] := by
  rw [m113_api_Rec] at h
  rcases hA0.shape with ⟨rfl, hn⟩ | ⟨ad, cap, rfl, hl, hm⟩
  ·
   obtain rfl : a0 = [] := by simpa using hn
   replace h : some ([] : List TRec) = some r := by simpa [app] using h
   refine body (n := 8) Try.func113 rfl rfl rfl (Cls.refl w) ?_
   refine W.seq (W.region (L.y rfl (Y.assign rfl) ?_))
   refine L.nil (E.thenN (W.seq (W.seq (W.region (L.y rfl (Y.move rfl) ?_)))))
   refine L.y rfl (Y.eqlNil Try.underlying85 rfl rfl) ?_
   refine L.nil (E.thenN (W.condT rfl ?_))
   refine W.seq (W.region (L.y rfl (Y.assign rfl) ?_))
   refine L.nil (E.thenN (W.ret (E.thenR (E.ret1 rfl rfl (fun w1 hw => ?_)))))
   obtain rfl := Option.some.inj h
   exact ⟨_, _, rfl, ⟨_, rfl, rfl⟩, (hw.nilSl 99 5)⟩
  ·
   refine body (n := 8) Try.func113 rfl rfl rfl (Cls.refl w) ?_
   refine W.seq (W.region (L.y rfl (Y.assign rfl) ?_))
   refine L.nil (E.thenN (W.seq (W.seq (W.region (L.y rfl (Y.move rfl) ?_)))))
   refine L.y rfl (Y.eqlNil Try.underlying85 rfl rfl) ?_
   refine L.nil (E.thenN (W.condF rfl ?_))
   refine W.skip (E.thenN (W.seq (W.region (L.lit0 rfl Try.underlying85 el99 ?_))))
   intro b1
   refine L.y rfl (Y.move rfl) ?_
   refine L.appM (i := 0) (g := TRec.row) (l := []) (more := a0) h rfl Try.underlying85 el99 rfl rfl rfl (fun w' hw => hA0.cls0 hw) (plain_TRec _) rfl ?_
   intro v2 l3 el3 h
   refine L.y rfl (Y.assign rfl) ?_
   refine L.nil (E.thenN (W.ret (E.ret1 rfl rfl (fun w1 hw => ?_))))
   obtain rfl := Option.some.inj h
   exact ⟨_, _, rfl, ⟨_, rfl, rfl⟩, hw⟩
set_option maxRecDepth 100000 in
set_option maxHeartbeats 8000000 in
theorem w59_redo_Recover (a0 : (List TRec)) (a1 : (List TPage)) (u0 : Value) (w : World) (hz : w.drawn = 0) (r : ((List TRec) × (List TPage) × Int)) (h : m59_redo_Recover a0 a1 = some r) (hA0 : At w u0 5 (a0.map TRec.row)) : Does0 Try.prog 59 [u0, .agg (a1.map TPage.row).flatten.toArray] w fun u m => ∃ v0, u = .tuple #[v0, .agg (r.2.1.map TPage.row).flatten.toArray, .int .i64 r.2.2] ∧ m = [.sl v0 99 5 (r.1.map TRec.row)] := by
  rw [m59_redo_Recover] at h
  refine bodyM (n := 105) Try.func59 rfl rfl rfl hz ?_
  refine W.seq (W.region (L.box rfl rfl ?_))
  intro b1
  refine L.to (D := Cls w [] [.obj b1 ((a1.map TPage.row).flatten) 88]) (fun _ hw => hw) ?_
  refine L.y rfl (Y.assign rfl) ?_
  refine L.alloc rfl ze88 ?_
  intro b2
  refine L.to (D := Cls w [] [.obj b2 (((List.replicate 20 ((⟨0, 0⟩ : TPage) : TPage)).map TPage.row).flatten) 88, .obj b1 ((a1.map TPage.row).flatten) 88]) (fun _ hw => by first | exact hw | simpa [I, B, SR] using hw) ?_
  refine L.y rfl (Y.assign rfl) ?_
  refine L.nil (E.thenN (W.seqJ (fun gs D => gs = [(0, u0), (3, pt b1 0), (5, pt b2 0)] ∧ D = Cls w [] [.obj b2 (((List.replicate 20 ((⟨0, 0⟩ : TPage) : TPage)).map TPage.row).flatten) 88, .obj b1 ((a1.map TPage.row).flatten) 88] ∧ m59_redo_Recover_K1 a0 a1 = some r) ?_ ?_))
  ·
   refine W.seq (W.region (L.y rfl (Y.move rfl) ?_))
   obtain ⟨x58, e59, h⟩ := bind1S h
   refine L.y rfl (Y.does en60 rfl (fun w' hw => (w60_redo_Check a0 u0 w' _ e59 (hA0.cls0 hw)).mono (fun _ _ h => h.1))) ?_
   refine L.y rfl (Y.assign rfl) ?_
   refine L.nil (E.thenN (W.seq (W.region (L.y rfl (Y.move rfl) ?_))))
   refine L.ite h rfl (Y.neq rfl rfl) (fun c60 h => ?_) (fun c60 h => ?_)
   ·
    refine L.nil (E.thenN (W.condT rfl ?_))
    refine W.seq (W.region (L.y rfl (Y.build (cells := ((List.replicate 20 ((⟨0, 0⟩ : TPage) : TPage)).map TPage.row).flatten.toArray) rfl (by kernel_rfl)) ?_))
    refine L.y rfl (Y.move rfl) ?_
    refine L.y rfl (Y.assign rfl) ?_
    obtain ⟨_, en61, h⟩ := bind1S h
    obtain ⟨_, en61⟩ := arrN_some en61
    obtain ⟨_, en62, h⟩ := bind1S h
    obtain ⟨_, en62⟩ := arrN_some en62
    refine L.storeArW (i := 0) (row := TPage.row) (k := 2) en61 en62 rfl (fun _ => rfl) (plain_TPage _) sz88 rfl rfl rfl ?_
    refine L.y rfl (Y.assign rfl) ?_
    refine L.nil (E.thenN (W.ret (E.KSR ?_)))
    obtain ⟨_, en63, h⟩ := bind1S h
    obtain ⟨_, en63⟩ := arrN_some en63
    refine E.toM (E.retR3 rfl (Rv.tmp rfl) (Rv.cellAr (i := 0) (row := TPage.row) (k := 2) ag88 sz88 rfl rfl (fun _ => rfl) (by rw [en63])) (Rv.tmp rfl) (fun w1 hw => ?_))
    obtain rfl := Option.some.inj h
    exact ⟨_, _, rfl, ⟨_, rfl, rfl⟩, (hw.nilSl 99 5).sel [0] (by decide) rfl⟩
   ·
    refine L.nil (E.thenN (W.condF rfl ?_))
    exact W.skip (E.joinJ ⟨rfl, rfl, h⟩ ⟨rfl, rfl, rfl, trivial⟩ (fun _ hw => hw))
  ·
   rintro _ _ ⟨rfl, rfl, h⟩
   rw [m59_redo_Recover_K1] at h
   refine W.seq (W.region (L.y rfl (Y.move rfl) ?_))
   obtain ⟨l3, e5, h⟩ := bind1S h
   refine L.does rfl en113 rfl (fun w' hw => w113_api_Rec a0 u0 w' _ e5 (hA0.cls0 hw)) ?_
   rintro v4 _ ⟨_, rfl, rfl⟩
   refine L.alloc rfl ze85 ?_
   intro b6
   refine L.storeV (i := 0) sz85 rfl rfl (fun _ hw => (As.at_ (hw.get (i := 1) rfl)).one) rfl (Nat.le_of_ble_eq_true rfl) ?_
   refine L.nil (E.thenN (W.seq (W.region (L.alloc rfl ze167 ?_))))
   intro b7
   refine L.to (D := Cls w [] [.obj b7 (((List.replicate 12 (false : Bool)).map B).flatten) 167, .obj b6 [v4] 85, .sl v4 99 5 (l3.map TRec.row), .obj b2 (((List.replicate 20 ((⟨0, 0⟩ : TPage) : TPage)).map TPage.row).flatten) 88, .obj b1 ((a1.map TPage.row).flatten) 88]) (fun _ hw => by first | exact hw | simpa [I, B, SR] using hw) ?_
   refine L.nil (E.thenN (W.seqJ (fun gs D => ∃ (gl1 : (List Bool)) (gl2 : (List TPage)), gs = [(0, u0), (3, pt b1 0), (5, pt b2 0), (8, pt b6 0), (9, pt b7 0)] ∧ D = Cls w [] [.obj b7 ((gl1.map B).flatten) 167, .obj b6 [v4] 85, .obj b2 (((List.replicate 20 ((⟨0, 0⟩ : TPage) : TPage)).map TPage.row).flatten) 88, .obj b1 ((gl2.map TPage.row).flatten) 88, .sl v4 99 5 (l3.map TRec.row)] ∧ m59_redo_Recover_K2 a0 l3 gl1 gl2 = some r) ?_ ?_))
   ·
    refine W.seq (W.region (L.y rfl (Y.move rfl) ?_))
    refine L.y rfl (Y.lenM (g := TRec.row) (l := a0) Try.underlying85 rfl (fun w' hw => hA0.cls0 hw)) ?_
    refine L.y rfl (Y.move rfl) ?_
    refine L.nil (E.thenN (W.block (W.loopJ (fun m gs D => ∃ (gx13 : Int) (gl14 : (List Bool)) (gl15 : (List TPage)), gs = [(0, u0), (3, pt b1 0), (5, pt b2 0), (8, pt b6 0), (9, pt b7 0), (26, u0), (27, .int .i64 (a0.length : Int)), (28, .int .i64 gx13)] ∧ D = Cls w [] [.obj b7 ((gl14.map B).flatten) 167, .obj b6 [v4] 85, .obj b2 (((List.replicate 20 ((⟨0, 0⟩ : TPage) : TPage)).map TPage.row).flatten) 88, .obj b1 ((gl15.map TPage.row).flatten) 88, .sl v4 99 5 (l3.map TRec.row)] ∧ m59_redo_Recover_L3 a0 l3 m gx13 gl14 gl15 = some r) ⟨0, (List.replicate 12 (false : Bool)), a1, rfl, rfl, h⟩ ⟨rfl, rfl, rfl, rfl, rfl, rfl, rfl, rfl, trivial⟩ (fun _ hw => hw.sel [0, 1, 3, 4, 2] (by decide) rfl) ?_)))
    rintro m _ _ ⟨gx13, gl14, gl15, rfl, rfl, h⟩
    rcases m with _ | m
    · rw [m59_redo_Recover_L3] at h; cases h
    rw [m59_redo_Recover_L3] at h
    generalize hg3 : m59_redo_Recover_L3 a0 l3 m = go3 at h
    rw [m59_redo_Recover_L3B] at h
    refine W.seq (W.region (L.ite h rfl (Y.lss rfl rfl) (fun c43 h => ?_) (fun c43 h => ?_)))
    ·
     refine L.nil (E.thenN (W.seq (W.condT rfl ?_)))
     refine W.skip (E.thenN (W.seq (W.block (W.seq (W.region (L.y rfl (Y.move rfl) ?_))))))
     refine L.m (V := fun _ => el u0 (gx13.toNat * 5)) h rfl (Y.indexM (g := TRec.row) (l := a0) Try.underlying85 sz99 rfl rfl (fun w' hw => hA0.cls0 hw)) (fun x44 ex44 h => ?_)
     refine L.y rfl (Y.loadEN (r := [.int .i64 x44.Kind, .int .i64 x44.Tx, .int .i64 x44.Item, .int .i64 x44.Old, .int .i64 x44.New]) ag99 sz99 rfl (fun w' hw => hA0.cls0 hw) (idx_map ex44) rfl) ?_
     refine L.alloc rfl ze99 ?_
     intro b45
     refine L.y rfl (Y.assign rfl) ?_
     refine L.store (i := 0) (vs := [.int .i64 x44.Kind, .int .i64 x44.Tx, .int .i64 x44.Item, .int .i64 x44.Old, .int .i64 x44.New]) sz99 rfl rfl rfl rfl (by simp [Value.oneCell', Value.cells, st, pt]) rfl (Nat.le_of_ble_eq_true rfl) ?_
     refine L.nil (E.thenN (W.seq (W.region (L.y rfl (Y.fieldP fd99_0 rfl) ?_))))
     refine L.y rfl (Y.loadP (i := 0) ag3 rfl rfl rfl) ?_
     refine L.ite h rfl (Y.neq rfl rfl) (fun c46 h => ?_) (fun c46 h => ?_)
     ·
      refine L.nil (E.thenN (W.condT rfl ?_))
      refine W.region (L.y rfl (Y.fieldP fd99_1 rfl) ?_)
      refine L.y rfl (Y.loadP (i := 0) ag3 rfl rfl rfl) ?_
      refine L.m (V := fun _ => pt b7 (0 + x44.Tx.toNat * 1)) h rfl (Y.indexAM (l := gl14) Try.underlying167 sz4 rfl rfl) (fun x47 ex47 h => ?_)
      refine L.storeArM (q := 1) (row := B) (vs := [.bool true]) (j := 0) (u1 := true) h sz4 rfl rfl rfl rfl rfl (all1 rfl all0) rfl (fun _ => rfl) (idxA_idx ex47) rfl rfl ?_
      intro l48 el48 h
      refine L.nil (E.blockN (E.thenN (W.region (L.m (V := fun x49 => .int .i64 x49) h rfl (Y.addM rfl rfl) (fun x49 ex49 h => ?_)))))
      refine L.y rfl (Y.move rfl) ?_
      exact L.nil (E.againJ ⟨x49, l48, gl15, rfl, rfl, by rw [hg3]; exact h⟩ (Nat.lt_succ_self _) ⟨rfl, rfl, rfl, rfl, rfl, rfl, rfl, rfl, trivial⟩ (fun _ hw => hw.sel [1, 2, 3, 4, 5] (by decide) rfl))
     ·
      refine L.nil (E.thenN (W.condF rfl ?_))
      refine W.seq (W.region (L.y rfl (Y.move rfl) ?_))
      refine L.m (V := fun x50 => .int .i64 x50) h rfl (Y.addM rfl rfl) (fun x50 ex50 h => ?_)
      refine L.y rfl (Y.fieldP fd99_2 rfl) ?_
      refine L.y rfl (Y.loadP (i := 0) ag3 rfl rfl rfl) ?_
      refine L.m (V := fun _ => pt b1 (0 + x44.Item.toNat * 2)) h rfl (Y.indexAM (l := gl15) Try.underlying88 sz87 rfl rfl) (fun x51 ex51 h => ?_)
      refine L.y rfl (Y.fieldP fd87_1 rfl) ?_
      refine L.y rfl (Y.loadAr (q := 4) (row := TPage.row) (j := 1) (p := .int .i64 x51.Lsn) ag3 rfl rfl rfl (fun _ => rfl) (idxA_idx ex51) rfl) ?_
      refine L.ite h rfl (Y.gtr rfl rfl) (fun c52 h => ?_) (fun c52 h => ?_)
      ·
       refine L.nil (E.thenN (W.condT rfl ?_))
       refine W.region (L.y rfl (Y.fieldP fd99_2 rfl) ?_)
       refine L.y rfl (Y.loadP (i := 0) ag3 rfl rfl rfl) ?_
       refine L.y rfl (Y.fieldP fd99_4 rfl) ?_
       refine L.y rfl (Y.loadP (i := 0) ag3 rfl rfl rfl) ?_
       refine L.y rfl (Y.move rfl) ?_
       refine L.m (V := fun x53 => .int .i64 x53) h rfl (Y.addM rfl rfl) (fun x53 ex53 h => ?_)
       refine L.y rfl (Y.build (cells := #[.int .i64 x44.New, .int .i64 x53]) rfl (by kernel_rfl)) ?_
       refine L.m (V := fun _ => pt b1 (0 + x44.Item.toNat * 2)) h rfl (Y.indexAM (l := gl15) Try.underlying88 sz87 rfl rfl) (fun x54 ex54 h => ?_)
       refine L.storeArM (q := 4) (row := TPage.row) (vs := [.int .i64 x44.New, .int .i64 x53]) (j := 0) (u1 := (⟨x44.New, x53⟩ : TPage)) h sz87 rfl rfl rfl rfl rfl (all1 rfl (all1 rfl all0)) rfl (fun _ => rfl) (idxA_idx ex54) rfl rfl ?_
       intro l55 el55 h
       refine L.nil (E.blockN (E.thenN (W.region (L.m (V := fun x56 => .int .i64 x56) h rfl (Y.addM rfl rfl) (fun x56 ex56 h => ?_)))))
       refine L.y rfl (Y.move rfl) ?_
       exact L.nil (E.againJ ⟨x56, gl14, l55, rfl, rfl, by rw [hg3]; exact h⟩ (Nat.lt_succ_self _) ⟨rfl, rfl, rfl, rfl, rfl, rfl, rfl, rfl, trivial⟩ (fun _ hw => hw.sel [1, 2, 3, 4, 5] (by decide) rfl))
      ·
       refine L.nil (E.thenN (W.condF rfl ?_))
       refine W.skip (E.blockN (E.thenN (W.region (L.m (V := fun x57 => .int .i64 x57) h rfl (Y.addM rfl rfl) (fun x57 ex57 h => ?_)))))
       refine L.y rfl (Y.move rfl) ?_
       exact L.nil (E.againJ ⟨x57, gl14, gl15, rfl, rfl, by rw [hg3]; exact h⟩ (Nat.lt_succ_self _) ⟨rfl, rfl, rfl, rfl, rfl, rfl, rfl, rfl, trivial⟩ (fun _ hw => hw.sel [1, 2, 3, 4, 5] (by decide) rfl))
    ·
     refine L.nil (E.thenN (W.seq (W.condF rfl ?_)))
     exact W.exit (E.thenX (E.KLX (E.blockX (E.joinJ ⟨gl14, gl15, rfl, rfl, h⟩ ⟨rfl, rfl, rfl, rfl, rfl, trivial⟩ (fun _ hw => hw)))))
   ·
    rintro _ _ ⟨gl1, gl2, rfl, rfl, h⟩
    rw [m59_redo_Recover_K2] at h
    refine W.seq (W.region (L.alloc rfl ze167 ?_))
    intro b8
    refine L.to (D := Cls w [] [.obj b8 (((List.replicate 12 (false : Bool)).map B).flatten) 167, .obj b7 ((gl1.map B).flatten) 167, .obj b6 [v4] 85, .obj b2 (((List.replicate 20 ((⟨0, 0⟩ : TPage) : TPage)).map TPage.row).flatten) 88, .obj b1 ((gl2.map TPage.row).flatten) 88, .sl v4 99 5 (l3.map TRec.row)]) (fun _ hw => by first | exact hw | simpa [I, B, SR] using hw) ?_
    refine L.nil (E.thenN (W.seq (W.seq (W.region (L.y rfl (Y.move rfl) ?_)))))
    refine L.callJ (fun v D => ∃ (gb3 : Nat), v = .func (.func 149) #[] #[pt gb3 0] ∧ D = Cls w [] [.obj b8 (((List.replicate 12 (false : Bool)).map B).flatten) 167, .obj b7 ((gl1.map B).flatten) 167, .obj b6 [v4] 85, .obj b2 (((List.replicate 20 ((⟨0, 0⟩ : TPage) : TPage)).map TPage.row).flatten) 88, .obj b1 ((gl2.map TPage.row).flatten) 88, .obj gb3 [u0] 85, .sl v4 99 5 (l3.map TRec.row)] ∧ m59_redo_Recover_K3 a0 gl1 l3 gl2 = some r) rfl en114 rfl Try.func114 rfl rfl rfl ?_ ?_
    ·
     refine W.seq (W.region (L.boxV rfl rfl (fun _ hw => (At.cls0 hA0 hw).one) ?_))
     intro b42
     refine L.y rfl (Y.assign rfl) ?_
     refine L.nil (E.thenN (W.seq (W.region (L.y rfl (Y.func rfl) ?_))))
     refine L.y rfl (Y.assign rfl) ?_
     refine L.nil (E.thenN (W.ret (E.ret1 rfl rfl (fun w1 hw => ?_))))
     exact ⟨_, _, rfl, ⟨b42, rfl, rfl, h⟩, hw.sel [1, 2, 3, 4, 5, 0, 6] (by decide) rfl⟩
    ·
     rintro _ _ ⟨gb3, rfl, rfl, h⟩
     rw [m59_redo_Recover_K3] at h
     refine L.nil (E.thenN ?_)
     obtain ⟨_, en41, h⟩ := bind1S h
     replace en41 := lim_some en41
     refine W.rangeB (gf := 149) (Bs := gb3) (ib := 5) (sv := u0) (eb := 85) (m0 := [.obj b8 (((List.replicate 12 (false : Bool)).map B).flatten) 167, .obj b7 ((gl1.map B).flatten) 167, .obj b6 [v4] 85, .obj b2 (((List.replicate 20 ((⟨0, 0⟩ : TPage) : TPage)).map TPage.row).flatten) 88, .obj b1 ((gl2.map TPage.row).flatten) 88, .obj gb3 [u0] 85, .sl v4 99 5 (l3.map TRec.row)]) (ev := fun x => .agg (TRec.row x).toArray) (xs := a0.reverse) (fun rest m => ∃ (gl4 : (List Bool)) (gv5 : Value) (gl6 : (List TRec)) (gl7 : (List TPage)), m = [.obj b8 ((gl4.map B).flatten) 167, .obj b7 ((gl1.map B).flatten) 167, .obj b6 [gv5] 85, .obj b2 (((List.replicate 20 ((⟨0, 0⟩ : TPage) : TPage)).map TPage.row).flatten) 88, .obj b1 ((gl7.map TPage.row).flatten) 88, .obj gb3 [u0] 85, .sl gv5 99 5 (gl6.map TRec.row)] ∧ m59_redo_Recover_R1 gl1 rest gl4 gl6 gl7 = some r) (fun x9 rest gs m => ∃ (gl4 : (List Bool)) (gv5 : Value) (gl6 : (List TRec)) (gl7 : (List TPage)) (b12 : Nat), gs = [(3, pt b1 0), (8, pt b6 0), (9, pt b7 0), (12, pt b8 0), (14, pt b12 0)] ∧ m = [.obj b12 [.int .i64 x9.Kind, .int .i64 x9.Tx, .int .i64 x9.Item, .int .i64 x9.Old, .int .i64 x9.New] 99, .obj b8 ((gl4.map B).flatten) 167, .obj b7 ((gl1.map B).flatten) 167, .obj b6 [gv5] 85, .obj b2 (((List.replicate 20 ((⟨0, 0⟩ : TPage) : TPage)).map TPage.row).flatten) 88, .obj b1 ((gl7.map TPage.row).flatten) 88, .obj gb3 [u0] 85, .sl gv5 99 5 (gl6.map TRec.row)] ∧ m59_redo_Recover_R1 gl1 (x9 :: rest) gl4 gl6 gl7 = some r) hz rfl en149 rfl rfl (fun _ hw => hw) ⟨(List.replicate 12 (false : Bool)), v4, l3, gl2, rfl, h⟩ (fun W hw => back149 (ib := 5) hA0 hw rfl en41) ?_ ?_ ?_ ?_ ?_
     ·
      rintro rest m ⟨gl4, gv5, gl6, gl7, rfl, h⟩
      exact ⟨rfl, rfl⟩
     ·
      rintro x9 rest gs m ⟨gl4, gv5, gl6, gl7, b12, rfl, rfl, h⟩
      rfl
     ·
      rintro l x9 rest i11 m ⟨gl4, gv5, gl6, gl7, rfl, h⟩ wG oG
      refine G.region (.round _) rfl ?_
      refine L.alloc rfl ze99 ?_
      intro b12
      refine L.store (i := 0) (vs := [.int .i64 x9.Kind, .int .i64 x9.Tx, .int .i64 x9.Item, .int .i64 x9.Old, .int .i64 x9.New]) sz99 rfl rfl rfl rfl (by simp [Value.oneCell', Value.cells, st, pt]) rfl (Nat.le_of_ble_eq_true rfl) ?_
      exact L.nil (E.assignJ ⟨gl4, gv5, gl6, gl7, b12, rfl, rfl, h⟩ ⟨rfl, rfl, rfl, rfl, rfl, trivial⟩ (fun _ hw => hw))
     ·
      rintro l x9 rest gs m ⟨gl4, gv5, gl6, gl7, b12, rfl, rfl, h⟩ wG oG
      rw [m59_redo_Recover_R1] at h
      generalize hg1 : m59_redo_Recover_R1 gl1 rest = go1 at h
      rw [m59_redo_Recover_R1B] at h
      refine G.block ?_
      refine G.seq ?_
      refine G.seq ?_
      refine G.region (.round _) rfl ?_
      refine L.y rfl (Y.fieldP fd99_1 rfl) ?_
      refine L.y rfl (Y.loadP (i := 0) ag3 rfl rfl rfl) ?_
      refine L.m (V := fun _ => pt b7 (0 + x9.Tx.toNat * 1)) h rfl (Y.indexAM (l := gl1) Try.underlying167 sz4 rfl rfl) (fun x13 ex13 h => ?_)
      refine L.y rfl (Y.loadAr (q := 2) (row := B) (j := 0) (p := .bool x13) ag4 rfl rfl rfl (fun _ => rfl) (idxA_idx ex13) rfl) ?_
      refine L.nil (E.thenG ?_)
      refine G.caseB (q := 63) h rfl (fun h => ?_) (fun h => ?_)
      ·
       refine G.condT rfl ?_
       refine G.exit ?_
       refine E.thenGX ?_
       exact E.blockX (E.roundJ ⟨gl4, gv5, gl6, gl7, rfl, by rw [hg1]; exact h⟩ (fun _ hw => hw.sel [1, 2, 3, 4, 5, 6, 7] (by decide) rfl))
      ·
       refine G.condF rfl ?_
       refine G.skip ?_
       refine E.thenG ?_
       refine G.seq ?_
       refine G.region (.round _) rfl ?_
       refine L.y rfl (Y.fieldP fd99_1 rfl) ?_
       refine L.y rfl (Y.loadP (i := 0) ag3 rfl rfl rfl) ?_
       refine L.m (V := fun _ => pt b8 (0 + x9.Tx.toNat * 1)) h rfl (Y.indexAM (l := gl4) Try.underlying167 sz4 rfl rfl) (fun x14 ex14 h => ?_)
       refine L.storeArM (q := 1) (row := B) (vs := [.bool true]) (j := 0) (u1 := true) h sz4 rfl rfl rfl rfl rfl (all1 rfl all0) rfl (fun _ => rfl) (idxA_idx ex14) rfl rfl ?_
       intro l15 el15 h
       refine L.nil (E.thenG ?_)
       refine G.seq ?_
       refine G.drawn2 (k := 14) (.round _) rfl (stC [[13]] [Cls wG oG [.obj b12 [.int .i64 x9.Kind, .int .i64 x9.Tx, .int .i64 x9.Item, .int .i64 x9.Old, .int .i64 x9.New] 99, .obj b8 ((l15.map B).flatten) 167, .obj b7 ((gl1.map B).flatten) 167, .obj b6 [gv5] 85, .obj b2 (((List.replicate 20 ((⟨0, 0⟩ : TPage) : TPage)).map TPage.row).flatten) 88, .obj b1 ((gl7.map TPage.row).flatten) 88, .obj gb3 [u0] 85, .sl gv5 99 5 (gl6.map TRec.row)]] (Cls wG oG [.obj b12 [.int .i64 x9.Kind, .int .i64 x9.Tx, .int .i64 x9.Item, .int .i64 x9.Old, .int .i64 x9.New] 99, .obj b8 ((l15.map B).flatten) 167, .obj b7 ((gl1.map B).flatten) 167, .obj b6 [gv5] 85, .obj b2 (((List.replicate 20 ((⟨0, 0⟩ : TPage) : TPage)).map TPage.row).flatten) 88, .obj b1 ((gl7.map TPage.row).flatten) 88, .obj gb3 [u0] 85, .sl gv5 99 5 (gl6.map TRec.row)])) rfl mixed (fun _ hw => hw.drew) (Sc.now (by kernel_rfl) (fun _ hw => hw)) ?_
       refine V2.y (i := 0) (Nx2.of (Z := Cls wG oG [.obj b12 [.int .i64 x9.Kind, .int .i64 x9.Tx, .int .i64 x9.Item, .int .i64 x9.Old, .int .i64 x9.New] 99, .obj b8 ((l15.map B).flatten) 167, .obj b7 ((gl1.map B).flatten) 167, .obj b6 [gv5] 85, .obj b2 (((List.replicate 20 ((⟨0, 0⟩ : TPage) : TPage)).map TPage.row).flatten) 88, .obj b1 ((gl7.map TPage.row).flatten) 88, .obj gb3 [u0] 85, .sl gv5 99 5 (gl6.map TRec.row)]) [] (by kernel_rfl) rfl (Zc.on (fun _ hw => hw) (Zc.fin (fun _ hw => hw)))) rfl rfl rfl (Y.fieldP fd99_1 rfl) ?_
       refine V2.y (i := 1) (Nx2.of (Z := Cls wG oG [.obj b12 [.int .i64 x9.Kind, .int .i64 x9.Tx, .int .i64 x9.Item, .int .i64 x9.Old, .int .i64 x9.New] 99, .obj b8 ((l15.map B).flatten) 167, .obj b7 ((gl1.map B).flatten) 167, .obj b6 [gv5] 85, .obj b2 (((List.replicate 20 ((⟨0, 0⟩ : TPage) : TPage)).map TPage.row).flatten) 88, .obj b1 ((gl7.map TPage.row).flatten) 88, .obj gb3 [u0] 85, .sl gv5 99 5 (gl6.map TRec.row)]) [] (by kernel_rfl) rfl (Zc.on (fun _ hw => hw) (Zc.fin (fun _ hw => hw)))) rfl rfl rfl (Y.loadP (i := 0) ag3 rfl rfl rfl) ?_
       refine V2.y (i := 2) (Nx2.of (Z := Cls wG oG [.obj b12 [.int .i64 x9.Kind, .int .i64 x9.Tx, .int .i64 x9.Item, .int .i64 x9.Old, .int .i64 x9.New] 99, .obj b8 ((l15.map B).flatten) 167, .obj b7 ((gl1.map B).flatten) 167, .obj b6 [gv5] 85, .obj b2 (((List.replicate 20 ((⟨0, 0⟩ : TPage) : TPage)).map TPage.row).flatten) 88, .obj b1 ((gl7.map TPage.row).flatten) 88, .obj gb3 [u0] 85, .sl gv5 99 5 (gl6.map TRec.row)]) [] (by kernel_rfl) rfl (Zc.on (fun _ hw => hw) (Zc.fin (fun _ hw => hw)))) rfl rfl rfl (Y.fieldP fd99_2 rfl) ?_
       refine V2.y (i := 3) (Nx2.of (Z := Cls wG oG [.obj b12 [.int .i64 x9.Kind, .int .i64 x9.Tx, .int .i64 x9.Item, .int .i64 x9.Old, .int .i64 x9.New] 99, .obj b8 ((l15.map B).flatten) 167, .obj b7 ((gl1.map B).flatten) 167, .obj b6 [gv5] 85, .obj b2 (((List.replicate 20 ((⟨0, 0⟩ : TPage) : TPage)).map TPage.row).flatten) 88, .obj b1 ((gl7.map TPage.row).flatten) 88, .obj gb3 [u0] 85, .sl gv5 99 5 (gl6.map TRec.row)]) [] (by kernel_rfl) rfl (Zc.on (fun _ hw => hw) (Zc.fin (fun _ hw => hw)))) rfl rfl rfl (Y.loadP (i := 0) ag3 rfl rfl rfl) ?_
       refine V2.y (i := 4) (Nx2.of (Z := Cls wG oG [.obj b12 [.int .i64 x9.Kind, .int .i64 x9.Tx, .int .i64 x9.Item, .int .i64 x9.Old, .int .i64 x9.New] 99, .obj b8 ((l15.map B).flatten) 167, .obj b7 ((gl1.map B).flatten) 167, .obj b6 [gv5] 85, .obj b2 (((List.replicate 20 ((⟨0, 0⟩ : TPage) : TPage)).map TPage.row).flatten) 88, .obj b1 ((gl7.map TPage.row).flatten) 88, .obj gb3 [u0] 85, .sl gv5 99 5 (gl6.map TRec.row)]) [] (by kernel_rfl) rfl (Zc.on (fun _ hw => hw) (Zc.fin (fun _ hw => hw)))) rfl rfl rfl (Y.fieldP fd99_2 rfl) ?_
       refine V2.y (i := 5) (Nx2.of (Z := Cls wG oG [.obj b12 [.int .i64 x9.Kind, .int .i64 x9.Tx, .int .i64 x9.Item, .int .i64 x9.Old, .int .i64 x9.New] 99, .obj b8 ((l15.map B).flatten) 167, .obj b7 ((gl1.map B).flatten) 167, .obj b6 [gv5] 85, .obj b2 (((List.replicate 20 ((⟨0, 0⟩ : TPage) : TPage)).map TPage.row).flatten) 88, .obj b1 ((gl7.map TPage.row).flatten) 88, .obj gb3 [u0] 85, .sl gv5 99 5 (gl6.map TRec.row)]) [] (by kernel_rfl) rfl (Zc.on (fun _ hw => hw) (Zc.fin (fun _ hw => hw)))) rfl rfl rfl (Y.loadP (i := 0) ag3 rfl rfl rfl) ?_
       refine V2.m (i := 6) (V' := fun _ => pt b1 (0 + x9.Item.toNat * 2)) h (Nx2.of (Z := Cls wG oG [.obj b12 [.int .i64 x9.Kind, .int .i64 x9.Tx, .int .i64 x9.Item, .int .i64 x9.Old, .int .i64 x9.New] 99, .obj b8 ((l15.map B).flatten) 167, .obj b7 ((gl1.map B).flatten) 167, .obj b6 [gv5] 85, .obj b2 (((List.replicate 20 ((⟨0, 0⟩ : TPage) : TPage)).map TPage.row).flatten) 88, .obj b1 ((gl7.map TPage.row).flatten) 88, .obj gb3 [u0] 85, .sl gv5 99 5 (gl6.map TRec.row)]) [] (by kernel_rfl) rfl (Zc.on (fun _ hw => hw) (Zc.fin (fun _ hw => hw)))) rfl rfl rfl (Y.indexAM (l := gl7) Try.underlying88 sz87 rfl rfl) (fun x18 ex18 h => ?_)
       refine V2.y (i := 7) (Nx2.of (Z := Cls wG oG [.obj b12 [.int .i64 x9.Kind, .int .i64 x9.Tx, .int .i64 x9.Item, .int .i64 x9.Old, .int .i64 x9.New] 99, .obj b8 ((l15.map B).flatten) 167, .obj b7 ((gl1.map B).flatten) 167, .obj b6 [gv5] 85, .obj b2 (((List.replicate 20 ((⟨0, 0⟩ : TPage) : TPage)).map TPage.row).flatten) 88, .obj b1 ((gl7.map TPage.row).flatten) 88, .obj gb3 [u0] 85, .sl gv5 99 5 (gl6.map TRec.row)]) [] (by kernel_rfl) rfl (Zc.on (fun _ hw => hw) (Zc.fin (fun _ hw => hw)))) rfl rfl rfl (Y.fieldP fd87_0 rfl) ?_
       refine V2.y (i := 8) (Nx2.of (Z := Cls wG oG [.obj b12 [.int .i64 x9.Kind, .int .i64 x9.Tx, .int .i64 x9.Item, .int .i64 x9.Old, .int .i64 x9.New] 99, .obj b8 ((l15.map B).flatten) 167, .obj b7 ((gl1.map B).flatten) 167, .obj b6 [gv5] 85, .obj b2 (((List.replicate 20 ((⟨0, 0⟩ : TPage) : TPage)).map TPage.row).flatten) 88, .obj b1 ((gl7.map TPage.row).flatten) 88, .obj gb3 [u0] 85, .sl gv5 99 5 (gl6.map TRec.row)]) [] (by kernel_rfl) rfl (Zc.on (fun _ hw => hw) (Zc.fin (fun _ hw => hw)))) rfl rfl rfl (Y.loadAr (q := 5) (row := TPage.row) (j := 0) (p := .int .i64 x18.Value_) ag3 rfl rfl rfl (fun _ => rfl) (idxA_idx ex18) rfl) ?_
       refine V2.y (i := 9) (Nx2.of (Z := Cls wG oG [.obj b12 [.int .i64 x9.Kind, .int .i64 x9.Tx, .int .i64 x9.Item, .int .i64 x9.Old, .int .i64 x9.New] 99, .obj b8 ((l15.map B).flatten) 167, .obj b7 ((gl1.map B).flatten) 167, .obj b6 [gv5] 85, .obj b2 (((List.replicate 20 ((⟨0, 0⟩ : TPage) : TPage)).map TPage.row).flatten) 88, .obj b1 ((gl7.map TPage.row).flatten) 88, .obj gb3 [u0] 85, .sl gv5 99 5 (gl6.map TRec.row)]) [] (by kernel_rfl) rfl (Zc.on (fun _ hw => hw) (Zc.fin (fun _ hw => hw)))) rfl rfl rfl (Y.fieldP fd99_3 rfl) ?_
       refine V2.y (i := 10) (Nx2.of (Z := Cls wG oG [.obj b12 [.int .i64 x9.Kind, .int .i64 x9.Tx, .int .i64 x9.Item, .int .i64 x9.Old, .int .i64 x9.New] 99, .obj b8 ((l15.map B).flatten) 167, .obj b7 ((gl1.map B).flatten) 167, .obj b6 [gv5] 85, .obj b2 (((List.replicate 20 ((⟨0, 0⟩ : TPage) : TPage)).map TPage.row).flatten) 88, .obj b1 ((gl7.map TPage.row).flatten) 88, .obj gb3 [u0] 85, .sl gv5 99 5 (gl6.map TRec.row)]) [] (by kernel_rfl) rfl (Zc.on (fun _ hw => hw) (Zc.fin (fun _ hw => hw)))) rfl rfl rfl (Y.loadP (i := 0) ag3 rfl rfl rfl) ?_
       refine V2.y (i := 11) (Nx2.of (Z := Cls wG oG [.obj b12 [.int .i64 x9.Kind, .int .i64 x9.Tx, .int .i64 x9.Item, .int .i64 x9.Old, .int .i64 x9.New] 99, .obj b8 ((l15.map B).flatten) 167, .obj b7 ((gl1.map B).flatten) 167, .obj b6 [gv5] 85, .obj b2 (((List.replicate 20 ((⟨0, 0⟩ : TPage) : TPage)).map TPage.row).flatten) 88, .obj b1 ((gl7.map TPage.row).flatten) 88, .obj gb3 [u0] 85, .sl gv5 99 5 (gl6.map TRec.row)]) [] (by kernel_rfl) rfl (Zc.on (fun _ hw => hw) (Zc.fin (fun _ hw => hw)))) rfl rfl rfl (Y.build (cells := #[.int .i64 1, .int .i64 x9.Tx, .int .i64 x9.Item, .int .i64 x18.Value_, .int .i64 x9.Old]) rfl (by kernel_rfl)) ?_
       refine V2.eff (i := 12) (by kernel_rfl) rfl ?_
       refine L.alloc rfl ze99 ?_
       intro b19
       refine L.nil (E.toV2 (stC [[13]] [Cls wG oG [.obj b19 [.int .i64 0, .int .i64 0, .int .i64 0, .int .i64 0, .int .i64 0] 99, .obj b12 [.int .i64 x9.Kind, .int .i64 x9.Tx, .int .i64 x9.Item, .int .i64 x9.Old, .int .i64 x9.New] 99, .obj b8 ((l15.map B).flatten) 167, .obj b7 ((gl1.map B).flatten) 167, .obj b6 [gv5] 85, .obj b2 (((List.replicate 20 ((⟨0, 0⟩ : TPage) : TPage)).map TPage.row).flatten) 88, .obj b1 ((gl7.map TPage.row).flatten) 88, .obj gb3 [u0] 85, .sl gv5 99 5 (gl6.map TRec.row)]] (Cls wG oG [.obj b12 [.int .i64 x9.Kind, .int .i64 x9.Tx, .int .i64 x9.Item, .int .i64 x9.Old, .int .i64 x9.New] 99, .obj b8 ((l15.map B).flatten) 167, .obj b7 ((gl1.map B).flatten) 167, .obj b6 [gv5] 85, .obj b2 (((List.replicate 20 ((⟨0, 0⟩ : TPage) : TPage)).map TPage.row).flatten) 88, .obj b1 ((gl7.map TPage.row).flatten) 88, .obj gb3 [u0] 85, .sl gv5 99 5 (gl6.map TRec.row)])) 12 (by kernel_rfl) (Sc.stay (fun _ hw => hw.sel [1, 2, 3, 4, 5, 6, 7, 8] (by decide) rfl) (Sc.stayD (fun _ hw => hw))) (Sc.now (by kernel_rfl) (fun _ hw => hw)) ?_)
       refine V2.eff (i := 13) (by kernel_rfl) rfl ?_
       refine L.store (i := 0) (vs := [.int .i64 1, .int .i64 x9.Tx, .int .i64 x9.Item, .int .i64 x18.Value_, .int .i64 x9.Old]) sz99 rfl rfl rfl rfl (by simp [Value.oneCell', Value.cells, st, pt]) rfl (Nat.le_of_ble_eq_true rfl) ?_
       refine L.nil (E.toV2 (stC [] [] (Cls wG oG [.obj b12 [.int .i64 x9.Kind, .int .i64 x9.Tx, .int .i64 x9.Item, .int .i64 x9.Old, .int .i64 x9.New] 99, .obj b8 ((l15.map B).flatten) 167, .obj b7 ((gl1.map B).flatten) 167, .obj b6 [gv5] 85, .obj b2 (((List.replicate 20 ((⟨0, 0⟩ : TPage) : TPage)).map TPage.row).flatten) 88, .obj b1 ((gl7.map TPage.row).flatten) 88, .obj gb3 [u0] 85, .sl gv5 99 5 (gl6.map TRec.row)])) 13 (by kernel_rfl) (Sc.past rfl (Sc.stayD (fun _ hw => hw))) (Sc.atD (fun _ hw => hw.sel [1, 2, 3, 4, 5, 6, 7, 8] (by decide) rfl)) ?_)
       refine V2.done (by kernel_rfl) ?_
       refine E.thenG ?_
       refine G.seq ?_
       refine G.region (.round _) rfl ?_
       refine L.y rfl (Y.loadP (i := 4) ag85 rfl rfl rfl) ?_
       refine L.y rfl (Y.loadPW (i := 0) ag99 sz99 rfl rfl rfl) ?_
       refine L.litAgg rfl Try.underlying85 el99 rfl rfl rfl ?_
       intro b20
       refine L.appM (i := 9) (g := TRec.row) (l := gl6) (more := [(⟨1, x9.Tx, x9.Item, x18.Value_, x9.Old⟩ : TRec)]) h rfl Try.underlying85 el99 rfl rfl rfl (fun w hw => As.at_ (hw.get (i := 0) rfl)) (plain_TRec _) rfl ?_
       intro v21 l22 el22 h
       refine L.storeV (i := 6) sz85 rfl rfl (fun _ hw => (As.at_ (hw.get (i := 0) rfl)).one) rfl (Nat.le_of_ble_eq_true rfl) ?_
       refine L.nil (E.thenG ?_)
       refine G.region (.round _) rfl ?_
       refine L.y rfl (Y.fieldP fd99_2 rfl) ?_
       refine L.y rfl (Y.loadP (i := 3) ag3 rfl rfl rfl) ?_
       refine L.y rfl (Y.fieldP fd99_3 rfl) ?_
       refine L.y rfl (Y.loadP (i := 3) ag3 rfl rfl rfl) ?_
       refine L.y rfl (Y.loadP (i := 6) ag85 rfl rfl rfl) ?_
       refine L.y rfl (Y.lenM (g := TRec.row) (l := l22) Try.underlying85 rfl (fun w hw => As.at_ (hw.get (i := 0) rfl))) ?_
       refine L.y rfl (Y.build (cells := #[.int .i64 x9.Old, .int .i64 (l22.length : Int)]) rfl (by kernel_rfl)) ?_
       refine L.m (V := fun _ => pt b1 (0 + x9.Item.toNat * 2)) h rfl (Y.indexAM (l := gl7) Try.underlying88 sz87 rfl rfl) (fun x23 ex23 h => ?_)
       refine L.storeArM (q := 8) (row := TPage.row) (vs := [.int .i64 x9.Old, .int .i64 (l22.length : Int)]) (j := 0) (u1 := (⟨x9.Old, (l22.length : Int)⟩ : TPage)) h sz87 rfl rfl rfl rfl rfl (all1 rfl (all1 rfl all0)) rfl (fun _ => rfl) (idxA_idx ex23) rfl rfl ?_
       intro l24 el24 h
       exact L.nil (E.blockN (E.roundJ ⟨l15, v21, l22, l24, rfl, by rw [hg1]; exact h⟩ (fun _ hw => hw.sel [4, 5, 6, 7, 8, 9, 0] (by decide) rfl)))
     ·
      rintro D m ⟨gl4, gv5, gl6, gl7, rfl, h⟩ wG oG hD hDo
      rw [m59_redo_Recover_R1] at h
      refine G.seqJ (fun gs D => ∃ (gv8 : Value) (gl9 : (List TRec)), gs = [(3, pt b1 0), (5, pt b2 0), (8, pt b6 0)] ∧ D = Cls wG oG [.obj b8 ((gl4.map B).flatten) 167, .obj b7 ((gl1.map B).flatten) 167, .obj b6 [gv8] 85, .obj b2 (((List.replicate 20 ((⟨0, 0⟩ : TPage) : TPage)).map TPage.row).flatten) 88, .obj b1 ((gl7.map TPage.row).flatten) 88, .obj gb3 [u0] 85, .sl gv8 99 5 (gl9.map TRec.row)] ∧ m59_redo_Recover_K4 gl7 gl9 = some r) ?_ ?_
      ·
       refine G.seq ?_
       refine G.region .flat rfl ?_
       obtain ⟨_, en32, h⟩ := bind1S h
       obtain ⟨_, en32⟩ := arrN_some en32
       refine L.y rfl (Y.loadArAll (q := 0) (row := B) (k := 1) ag167 sz167 rfl rfl (fun _ => rfl) (by rw [en32])) ?_
       refine L.y rfl (Y.move rfl) ?_
       refine L.nil (E.thenG ?_)
       refine G.block ?_
       refine G.loopJ (fun m gs D => ∃ (gx10 : Int) (gv11 : Value) (gl12 : (List TRec)), gs = [(3, pt b1 0), (5, pt b2 0), (8, pt b6 0), (91, .agg (gl4.map B).flatten.toArray), (92, .int .i64 gx10)] ∧ D = Cls wG oG [.obj b8 ((gl4.map B).flatten) 167, .obj b7 ((gl1.map B).flatten) 167, .obj b6 [gv11] 85, .obj b2 (((List.replicate 20 ((⟨0, 0⟩ : TPage) : TPage)).map TPage.row).flatten) 88, .obj b1 ((gl7.map TPage.row).flatten) 88, .obj gb3 [u0] 85, .sl gv11 99 5 (gl12.map TRec.row)] ∧ m59_redo_Recover_L2 gl4 gl7 m gx10 gl12 = some r) ⟨0, gv5, gl6, rfl, rfl, h⟩ ⟨rfl, rfl, rfl, rfl, rfl, trivial⟩ (fun _ hw => hw) ?_
       rintro m _ _ ⟨gx10, gv11, gl12, rfl, rfl, h⟩
       rcases m with _ | m
       · rw [m59_redo_Recover_L2] at h; cases h
       rw [m59_redo_Recover_L2] at h
       generalize hg2 : m59_redo_Recover_L2 gl4 gl7 m = go2 at h
       rw [m59_redo_Recover_L2B] at h
       refine G.seq ?_
       refine G.region .flat rfl ?_
       refine L.ite h rfl (Y.lss rfl rfl) (fun c33 h => ?_) (fun c33 h => ?_)
       ·
        refine L.nil (E.thenG ?_)
        refine G.seq ?_
        refine G.condT rfl ?_
        refine G.skip ?_
        refine E.thenG ?_
        refine G.seq ?_
        refine G.block ?_
        refine G.seq ?_
        refine G.region .flat rfl ?_
        refine L.y rfl (Y.move rfl) ?_
        obtain ⟨x34, ex34, h⟩ := bind1S h
        refine L.iteB h rfl (Y.idxArr1 (l := gl4) (row := B) (p := .bool x34) Try.underlying167 ag4 sz4 rfl rfl (fun _ => rfl) ex34 rfl) (fun c35 h => ?_) (fun c35 h => ?_)
        ·
         refine L.y rfl (Y.assign rfl) ?_
         refine L.y rfl (Y.assign rfl) ?_
         refine L.nil (E.thenG ?_)
         refine G.seq ?_
         refine G.region .flat rfl ?_
         refine L.y rfl (Y.move rfl) ?_
         refine L.nil (E.thenG ?_)
         refine G.condT rfl ?_
         refine G.region .flat rfl ?_
         refine L.y rfl (Y.loadP (i := 2) ag85 rfl rfl rfl) ?_
         refine L.y rfl (Y.move rfl) ?_
         refine L.y rfl (Y.build (cells := #[.int .i64 3, .int .i64 gx10, .int .i64 0, .int .i64 0, .int .i64 0]) rfl (by kernel_rfl)) ?_
         refine L.litAgg rfl Try.underlying85 el99 rfl rfl rfl ?_
         intro b36
         refine L.appM (i := 7) (g := TRec.row) (l := gl12) (more := [(⟨3, gx10, 0, 0, 0⟩ : TRec)]) h rfl Try.underlying85 el99 rfl rfl rfl (fun w hw => As.at_ (hw.get (i := 0) rfl)) (plain_TRec _) rfl ?_
         intro v37 l38 el38 h
         refine L.storeV (i := 4) sz85 rfl rfl (fun _ hw => (As.at_ (hw.get (i := 0) rfl)).one) rfl (Nat.le_of_ble_eq_true rfl) ?_
         refine L.nil (E.blockN (E.thenG ?_))
         refine G.region .flat rfl ?_
         refine L.m (V := fun x39 => .int .i64 x39) h rfl (Y.addM rfl rfl) (fun x39 ex39 h => ?_)
         refine L.y rfl (Y.move rfl) ?_
         exact L.nil (E.againJ ⟨x39, v37, l38, rfl, rfl, by rw [hg2]; exact h⟩ (Nat.lt_succ_self _) ⟨rfl, rfl, rfl, rfl, rfl, trivial⟩ (fun _ hw => hw.sel [2, 3, 4, 5, 6, 7, 0] (by decide) rfl))
        ·
         refine L.y rfl (Y.assign rfl) ?_
         refine L.y rfl (Y.assign rfl) ?_
         refine L.nil (E.thenG ?_)
         refine G.seq ?_
         refine G.region .flat rfl ?_
         refine L.y rfl (Y.move rfl) ?_
         refine L.nil (E.thenG ?_)
         refine G.condF rfl ?_
         refine G.skip ?_
         refine E.blockN (E.thenG ?_)
         refine G.region .flat rfl ?_
         refine L.m (V := fun x40 => .int .i64 x40) h rfl (Y.addM rfl rfl) (fun x40 ex40 h => ?_)
         refine L.y rfl (Y.move rfl) ?_
         exact L.nil (E.againJ ⟨x40, gv11, gl12, rfl, rfl, by rw [hg2]; exact h⟩ (Nat.lt_succ_self _) ⟨rfl, rfl, rfl, rfl, rfl, trivial⟩ (fun _ hw => hw))
       ·
        refine L.nil (E.thenG ?_)
        refine G.seq ?_
        refine G.condF rfl ?_
        refine G.exit ?_
        refine E.thenGX ?_
        exact E.KLX (E.blockX (E.joinJ ⟨gv11, gl12, rfl, rfl, h⟩ ⟨rfl, rfl, rfl, trivial⟩ (fun _ hw => hw)))
      ·
       rintro _ _ ⟨gv8, gl9, rfl, rfl, h⟩
       rw [m59_redo_Recover_K4] at h
       refine G.seq ?_
       refine G.drawn2 (k := 5) .flat rfl (stC [[3]] [Cls wG oG [.obj b8 ((gl4.map B).flatten) 167, .obj b7 ((gl1.map B).flatten) 167, .obj b6 [gv8] 85, .obj b2 (((List.replicate 20 ((⟨0, 0⟩ : TPage) : TPage)).map TPage.row).flatten) 88, .obj b1 ((gl7.map TPage.row).flatten) 88, .obj gb3 [u0] 85, .sl gv8 99 5 (gl9.map TRec.row)]] (Cls wG oG [.obj b8 ((gl4.map B).flatten) 167, .obj b7 ((gl1.map B).flatten) 167, .obj b6 [gv8] 85, .obj b1 ((gl7.map TPage.row).flatten) 88, .obj gb3 [u0] 85, .sl gv8 99 5 (gl9.map TRec.row)])) rfl mixed (fun _ hw => hw.drew) (Sc.now (by kernel_rfl) (fun _ hw => hw)) ?_
       refine V2.y (i := 0) (Nx2.of (Z := Cls wG oG [.obj b8 ((gl4.map B).flatten) 167, .obj b7 ((gl1.map B).flatten) 167, .obj b6 [gv8] 85, .obj b1 ((gl7.map TPage.row).flatten) 88, .obj gb3 [u0] 85, .sl gv8 99 5 (gl9.map TRec.row)]) [] (by kernel_rfl) rfl (Zc.on (fun _ hw => hw.sel [0, 1, 2, 4, 5, 6] (by decide) rfl) (Zc.fin (fun _ hw => hw)))) rfl rfl rfl (Y.loadP (i := 2) ag85 rfl rfl rfl) ?_
       obtain ⟨_, en28, h⟩ := bind1S h
       obtain ⟨_, en28⟩ := arrN_some en28
       refine V2.y (i := 1) (Nx2.of (Z := Cls wG oG [.obj b8 ((gl4.map B).flatten) 167, .obj b7 ((gl1.map B).flatten) 167, .obj b6 [gv8] 85, .obj b1 ((gl7.map TPage.row).flatten) 88, .obj gb3 [u0] 85, .sl gv8 99 5 (gl9.map TRec.row)]) [] (by kernel_rfl) rfl (Zc.on (fun _ hw => hw.sel [0, 1, 2, 4, 5, 6] (by decide) rfl) (Zc.fin (fun _ hw => hw)))) rfl rfl rfl (Y.loadArAll (q := 3) (row := TPage.row) (k := 2) ag88 sz88 rfl rfl (fun _ => rfl) (by rw [en28])) ?_
       refine V2.y (i := 2) (Nx2.of (Z := Cls wG oG [.obj b8 ((gl4.map B).flatten) 167, .obj b7 ((gl1.map B).flatten) 167, .obj b6 [gv8] 85, .obj b1 ((gl7.map TPage.row).flatten) 88, .obj gb3 [u0] 85, .sl gv8 99 5 (gl9.map TRec.row)]) [] (by kernel_rfl) rfl (Zc.on (fun _ hw => hw.sel [0, 1, 2, 4, 5, 6] (by decide) rfl) (Zc.fin (fun _ hw => hw)))) rfl rfl rfl (Y.assign rfl) ?_
       refine V2.eff (i := 3) (by kernel_rfl) rfl ?_
       obtain ⟨_, en29, h⟩ := bind1S h
       obtain ⟨_, en29⟩ := arrN_some en29
       obtain ⟨_, en30, h⟩ := bind1S h
       obtain ⟨_, en30⟩ := arrN_some en30
       refine L.storeArW (i := 3) (row := TPage.row) (k := 2) en29 en30 rfl (fun _ => rfl) (plain_TPage _) sz88 rfl rfl rfl ?_
       refine L.nil (E.toV2 (stC [] [] (Cls wG oG [.obj b8 ((gl4.map B).flatten) 167, .obj b7 ((gl1.map B).flatten) 167, .obj b6 [gv8] 85, .obj b1 ((gl7.map TPage.row).flatten) 88, .obj gb3 [u0] 85, .sl gv8 99 5 (gl9.map TRec.row)])) 3 (by kernel_rfl) (Sc.past rfl (Sc.stayD (fun _ hw => hw))) (Sc.atD (fun _ hw => hw.sel [0, 1, 2, 4, 5, 6] (by decide) rfl)) ?_)
       refine V2.y (i := 4) (Nx2.of (Z := Cls wG oG [.obj b8 ((gl4.map B).flatten) 167, .obj b7 ((gl1.map B).flatten) 167, .obj b6 [gv8] 85, .obj b1 ((gl7.map TPage.row).flatten) 88, .obj gb3 [u0] 85, .sl gv8 99 5 (gl9.map TRec.row)]) [] (by kernel_rfl) rfl (Zc.fin (fun _ hw => hw))) rfl rfl rfl (Y.assign rfl) ?_
       refine V2.done (by kernel_rfl) ?_
       refine E.thenG ?_
       refine G.ret ?_
       obtain ⟨_, en31, h⟩ := bind1S h
       obtain ⟨_, en31⟩ := arrN_some en31
       refine E.retM3 hD hDo rfl rfl (Rv.tmp rfl) (Rv.cellAr (i := 3) (row := TPage.row) (k := 2) ag88 sz88 rfl rfl (fun _ => rfl) (by rw [en31])) (Rv.tmp rfl) (fun w1 hw => ?_)
       obtain rfl := Option.some.inj h
       exact ⟨_, _, rfl, ⟨_, rfl, rfl⟩, hw.sel [6] (by decide) rfl⟩
set_option maxRecDepth 100000 in
set_option maxHeartbeats 8000000 in
theorem w61_quirref_Recover (a0 : (List TRec)) (a1 : (List TPage)) (u0 : Value) (w : World) (r : ((List TRec) × (List TPage))) (h : m61_quirref_Recover a0 a1 = some r) (hA0 : At w u0 5 (a0.map TRec.row)) : Does Try.prog 61 [u0, .agg (a1.map TPage.row).flatten.toArray] w fun u m => ∃ v0, u = .tuple #[v0, .agg (r.2.map TPage.row).flatten.toArray] ∧ m = [.sl v0 99 5 (r.1.map TRec.row)] := by
  rw [m61_quirref_Recover] at h
  refine body (n := 103) Try.func61 rfl rfl rfl (Cls.refl w) ?_
  refine W.seq (W.region (L.box rfl rfl ?_))
  intro b1
  refine L.to (D := Cls w [] [.obj b1 ((a1.map TPage.row).flatten) 88]) (fun _ hw => hw) ?_
  refine L.y rfl (Y.assign rfl) ?_
  refine L.alloc rfl ze88 ?_
  intro b2
  refine L.to (D := Cls w [] [.obj b2 (((List.replicate 20 ((⟨0, 0⟩ : TPage) : TPage)).map TPage.row).flatten) 88, .obj b1 ((a1.map TPage.row).flatten) 88]) (fun _ hw => by first | exact hw | simpa [I, B, SR] using hw) ?_
  refine L.nil (E.thenN (W.seqJ (fun gs D => ∃ (gl1 : (List TPage)), gs = [(0, u0), (3, pt b1 0), (5, pt b2 0)] ∧ D = Cls w [] [.obj b2 (((List.replicate 20 ((⟨0, 0⟩ : TPage) : TPage)).map TPage.row).flatten) 88, .obj b1 ((gl1.map TPage.row).flatten) 88] ∧ m61_quirref_Recover_K1 a0 gl1 = some r) ?_ ?_))
  ·
   refine W.seq (W.region (L.y rfl (Y.move rfl) ?_))
   refine L.nil (E.thenN (W.block (W.loopJ (fun m gs D => ∃ (gx16 : Int) (gl17 : (List TPage)), gs = [(0, u0), (3, pt b1 0), (5, pt b2 0), (13, .int .i64 gx16)] ∧ D = Cls w [] [.obj b2 (((List.replicate 20 ((⟨0, 0⟩ : TPage) : TPage)).map TPage.row).flatten) 88, .obj b1 ((gl17.map TPage.row).flatten) 88] ∧ m61_quirref_Recover_L3 a0 m gx16 gl17 = some r) ⟨0, a1, rfl, rfl, h⟩ ⟨rfl, rfl, rfl, rfl, trivial⟩ (fun _ hw => hw) ?_)))
   rintro m _ _ ⟨gx16, gl17, rfl, rfl, h⟩
   rcases m with _ | m
   · rw [m61_quirref_Recover_L3] at h; cases h
   rw [m61_quirref_Recover_L3] at h
   generalize hg3 : m61_quirref_Recover_L3 a0 m = go3 at h
   rw [m61_quirref_Recover_L3B] at h
   refine W.seq (W.region (L.ite h rfl (Y.lss rfl rfl) (fun c44 h => ?_) (fun c44 h => ?_)))
   ·
    refine L.nil (E.thenN (W.seq (W.condT rfl ?_)))
    refine W.skip (E.thenN (W.seq (W.block (W.seq (W.region (L.y rfl (Y.move rfl) ?_))))))
    refine L.y rfl (Y.assign rfl) ?_
    refine L.nil (E.thenN (W.seq (W.region (L.y rfl (Y.move rfl) ?_))))
    refine L.y rfl (Y.move rfl) ?_
    obtain ⟨x45, e46, h⟩ := bind1S h
    refine L.y rfl (Y.does en115 rfl (fun w' hw => (w115_quirref_lastUpdate a0 gx16 u0 w' _ e46 (hA0.cls0 hw)).mono (fun _ _ h => h.1))) ?_
    refine L.y rfl (Y.assign rfl) ?_
    refine L.nil (E.thenN (W.seq (W.region (L.y rfl (Y.move rfl) ?_))))
    refine L.m (V := fun x47 => .int .i64 x47) h rfl (Y.addM rfl rfl) (fun x47 ex47 h => ?_)
    refine L.y rfl (Y.move rfl) ?_
    refine L.m (V := fun _ => pt b1 (0 + gx16.toNat * 2)) h rfl (Y.indexAM (l := gl17) Try.underlying88 sz87 rfl rfl) (fun x48 ex48 h => ?_)
    refine L.y rfl (Y.fieldP fd87_1 rfl) ?_
    refine L.y rfl (Y.loadAr (q := 1) (row := TPage.row) (j := 1) (p := .int .i64 x48.Lsn) ag3 rfl rfl rfl (fun _ => rfl) (idxA_idx ex48) rfl) ?_
    refine L.ite h rfl (Y.gtr rfl rfl) (fun c49 h => ?_) (fun c49 h => ?_)
    ·
     refine L.y rfl (Y.move rfl) ?_
     refine L.take rfl (L.y rfl (Y.move rfl) ?_)
     refine L.take rfl (L.ite h rfl (Y.geq rfl rfl) (fun c50 h => ?_) (fun c50 h => ?_))
     ·
      refine L.y rfl (Y.pickT rfl rfl) ?_
      refine L.nil (E.thenN (W.condT rfl ?_))
      refine W.region (L.y rfl (Y.move rfl) ?_)
      refine L.y rfl (Y.move rfl) ?_
      refine L.y rfl (Y.move rfl) ?_
      refine L.m (V := fun _ => el u0 (x45.toNat * 5)) h rfl (Y.indexM (g := TRec.row) (l := a0) Try.underlying85 sz99 rfl rfl (fun w' hw => hA0.cls0 hw)) (fun x51 ex51 h => ?_)
      refine L.y rfl (Y.fieldE fd99_4 rfl) ?_
      refine L.y rfl (Y.loadE (u := .int .i64 x51.New) ag3 rfl (fun w' hw => hA0.cls0 hw) (idx_map ex51) rfl) ?_
      refine L.y rfl (Y.move rfl) ?_
      refine L.m (V := fun x52 => .int .i64 x52) h rfl (Y.addM rfl rfl) (fun x52 ex52 h => ?_)
      refine L.y rfl (Y.build (cells := #[.int .i64 x51.New, .int .i64 x52]) rfl (by kernel_rfl)) ?_
      refine L.m (V := fun _ => pt b1 (0 + gx16.toNat * 2)) h rfl (Y.indexAM (l := gl17) Try.underlying88 sz87 rfl rfl) (fun x53 ex53 h => ?_)
      refine L.storeArM (q := 1) (row := TPage.row) (vs := [.int .i64 x51.New, .int .i64 x52]) (j := 0) (u1 := (⟨x51.New, x52⟩ : TPage)) h sz87 rfl rfl rfl rfl rfl (all1 rfl (all1 rfl all0)) rfl (fun _ => rfl) (idxA_idx ex53) rfl rfl ?_
      intro l54 el54 h
      refine L.nil (E.blockN (E.thenN (W.region (L.m (V := fun x55 => .int .i64 x55) h rfl (Y.addM rfl rfl) (fun x55 ex55 h => ?_)))))
      refine L.y rfl (Y.move rfl) ?_
      exact L.nil (E.againJ ⟨x55, l54, rfl, rfl, by rw [hg3]; exact h⟩ (Nat.lt_succ_self _) ⟨rfl, rfl, rfl, rfl, trivial⟩ (fun _ hw => hw))
     ·
      refine L.y rfl (Y.pickT rfl rfl) ?_
      refine L.nil (E.thenN (W.condF rfl ?_))
      refine W.skip (E.blockN (E.thenN (W.region (L.m (V := fun x56 => .int .i64 x56) h rfl (Y.addM rfl rfl) (fun x56 ex56 h => ?_)))))
      refine L.y rfl (Y.move rfl) ?_
      exact L.nil (E.againJ ⟨x56, gl17, rfl, rfl, by rw [hg3]; exact h⟩ (Nat.lt_succ_self _) ⟨rfl, rfl, rfl, rfl, trivial⟩ (fun _ hw => hw))
    ·
     refine L.y rfl (Y.move rfl) ?_
     refine L.pass rfl rfl (by nofun) ?_
     refine L.pass rfl rfl (by nofun) ?_
     refine L.y rfl (Y.pickF rfl rfl) ?_
     refine L.nil (E.thenN (W.condF rfl ?_))
     refine W.skip (E.blockN (E.thenN (W.region (L.m (V := fun x57 => .int .i64 x57) h rfl (Y.addM rfl rfl) (fun x57 ex57 h => ?_)))))
     refine L.y rfl (Y.move rfl) ?_
     exact L.nil (E.againJ ⟨x57, gl17, rfl, rfl, by rw [hg3]; exact h⟩ (Nat.lt_succ_self _) ⟨rfl, rfl, rfl, rfl, trivial⟩ (fun _ hw => hw))
   ·
    refine L.nil (E.thenN (W.seq (W.condF rfl ?_)))
    exact W.exit (E.thenX (E.KLX (E.blockX (E.joinJ ⟨gl17, rfl, rfl, h⟩ ⟨rfl, rfl, rfl, trivial⟩ (fun _ hw => hw)))))
  ·
   rintro _ _ ⟨gl1, rfl, rfl, h⟩
   rw [m61_quirref_Recover_K1] at h
   refine W.seq (W.region (L.y rfl (Y.move rfl) ?_))
   obtain ⟨l3, e5, h⟩ := bind1S h
   refine L.does rfl en113 rfl (fun w' hw => w113_api_Rec a0 u0 w' _ e5 (hA0.cls0 hw)) ?_
   rintro v4 _ ⟨_, rfl, rfl⟩
   refine L.y rfl (Y.assign rfl) ?_
   refine L.nil (E.thenN (W.seq (W.region (L.alloc rfl ze167 ?_))))
   intro b6
   refine L.to (D := Cls w [] [.obj b6 (((List.replicate 12 (false : Bool)).map B).flatten) 167, .sl v4 99 5 (l3.map TRec.row), .obj b2 (((List.replicate 20 ((⟨0, 0⟩ : TPage) : TPage)).map TPage.row).flatten) 88, .obj b1 ((gl1.map TPage.row).flatten) 88]) (fun _ hw => by first | exact hw | simpa [I, B, SR] using hw) ?_
   refine L.nil (E.thenN (W.seqJ (fun gs D => ∃ (gv2 : Value) (gl3 : (List TRec)) (gl4 : (List Bool)) (gl5 : (List TPage)), gs = [(3, pt b1 0), (5, pt b2 0), (8, gv2), (9, pt b6 0)] ∧ D = Cls w [] [.obj b6 ((gl4.map B).flatten) 167, .obj b2 (((List.replicate 20 ((⟨0, 0⟩ : TPage) : TPage)).map TPage.row).flatten) 88, .obj b1 ((gl5.map TPage.row).flatten) 88, .sl gv2 99 5 (gl3.map TRec.row)] ∧ m61_quirref_Recover_K2 gl3 gl4 gl5 = some r) ?_ ?_))
   ·
    refine W.seq (W.region (L.y rfl (Y.move rfl) ?_))
    refine L.y rfl (Y.lenM (g := TRec.row) (l := a0) Try.underlying85 rfl (fun w' hw => hA0.cls0 hw)) ?_
    refine L.m (V := fun x22 => .int .i64 x22) h rfl (Y.subM rfl rfl) (fun x22 ex22 h => ?_)
    refine L.y rfl (Y.assign rfl) ?_
    refine L.nil (E.thenN (W.block (W.loopJ (fun m gs D => ∃ (gv11 : Value) (gl12 : (List TRec)) (gx13 : Int) (gl14 : (List Bool)) (gl15 : (List TPage)), gs = [(0, u0), (3, pt b1 0), (5, pt b2 0), (8, gv11), (9, pt b6 0), (10, .int .i64 gx13)] ∧ D = Cls w [] [.obj b6 ((gl14.map B).flatten) 167, .obj b2 (((List.replicate 20 ((⟨0, 0⟩ : TPage) : TPage)).map TPage.row).flatten) 88, .obj b1 ((gl15.map TPage.row).flatten) 88, .sl gv11 99 5 (gl12.map TRec.row)] ∧ m61_quirref_Recover_L2 a0 m gl12 gx13 gl14 gl15 = some r) ⟨v4, l3, x22, (List.replicate 12 (false : Bool)), gl1, rfl, rfl, h⟩ ⟨rfl, rfl, rfl, rfl, rfl, rfl, trivial⟩ (fun _ hw => hw.sel [0, 2, 3, 1] (by decide) rfl) ?_)))
    rintro m _ _ ⟨gv11, gl12, gx13, gl14, gl15, rfl, rfl, h⟩
    rcases m with _ | m
    · rw [m61_quirref_Recover_L2] at h; cases h
    rw [m61_quirref_Recover_L2] at h
    generalize hg2 : m61_quirref_Recover_L2 a0 m = go2 at h
    rw [m61_quirref_Recover_L2B] at h
    refine W.seqJ (fun gs D => gs = [(0, u0), (3, pt b1 0), (5, pt b2 0), (8, gv11), (9, pt b6 0), (10, .int .i64 gx13)] ∧ D = Cls w [] [.obj b6 ((gl14.map B).flatten) 167, .obj b2 (((List.replicate 20 ((⟨0, 0⟩ : TPage) : TPage)).map TPage.row).flatten) 88, .obj b1 ((gl15.map TPage.row).flatten) 88, .sl gv11 99 5 (gl12.map TRec.row)] ∧ m61_quirref_Recover_K4 a0 gx13 go2 gl12 gl14 gl15 = some r) ?_ ?_
    ·
     refine W.seq (W.region (L.y rfl (Y.move rfl) ?_))
     refine L.ite h rfl (Y.geq rfl rfl) (fun c43 h => ?_) (fun c43 h => ?_)
     ·
      refine L.nil (E.thenN (W.condT rfl ?_))
      exact W.skip (E.joinJ ⟨rfl, rfl, h⟩ ⟨rfl, rfl, rfl, rfl, rfl, rfl, trivial⟩ (fun _ hw => hw))
     ·
      refine L.nil (E.thenN (W.condF rfl ?_))
      exact W.exit (E.KSX (E.KLX (E.blockX (E.joinJ ⟨gv11, gl12, gl14, gl15, rfl, rfl, h⟩ ⟨rfl, rfl, rfl, rfl, trivial⟩ (fun _ hw => hw)))))
    ·
     rintro _ _ ⟨rfl, rfl, h⟩
     rw [m61_quirref_Recover_K4] at h
     refine W.seq (W.block (W.seq (W.region (L.y rfl (Y.move rfl) ?_))))
     refine L.y rfl (Y.move rfl) ?_
     refine L.m (V := fun _ => el u0 (gx13.toNat * 5)) h rfl (Y.indexM (g := TRec.row) (l := a0) Try.underlying85 sz99 rfl rfl (fun w' hw => hA0.cls0 hw)) (fun x23 ex23 h => ?_)
     refine L.y rfl (Y.loadEN (r := [.int .i64 x23.Kind, .int .i64 x23.Tx, .int .i64 x23.Item, .int .i64 x23.Old, .int .i64 x23.New]) ag99 sz99 rfl (fun w' hw => hA0.cls0 hw) (idx_map ex23) rfl) ?_
     refine L.alloc rfl ze99 ?_
     intro b24
     refine L.store (i := 0) (vs := [.int .i64 x23.Kind, .int .i64 x23.Tx, .int .i64 x23.Item, .int .i64 x23.Old, .int .i64 x23.New]) sz99 rfl rfl rfl rfl (by simp [Value.oneCell', Value.cells, st, pt]) rfl (Nat.le_of_ble_eq_true rfl) ?_
     refine L.nil (E.thenN (W.seqJ (fun gs D => gs = [(0, u0), (3, pt b1 0), (5, pt b2 0), (8, gv11), (9, pt b6 0), (10, .int .i64 gx13), (11, pt b24 0)] ∧ D = Cls w [] [.obj b24 [.int .i64 x23.Kind, .int .i64 x23.Tx, .int .i64 x23.Item, .int .i64 x23.Old, .int .i64 x23.New] 99, .obj b6 ((gl14.map B).flatten) 167, .obj b2 (((List.replicate 20 ((⟨0, 0⟩ : TPage) : TPage)).map TPage.row).flatten) 88, .obj b1 ((gl15.map TPage.row).flatten) 88, .sl gv11 99 5 (gl12.map TRec.row)] ∧ m61_quirref_Recover_K5 gl15 x23 gl12 gl14 gx13 go2 = some r) ?_ ?_))
     ·
      refine W.seq (W.region (L.y rfl (Y.move rfl) ?_))
      refine L.y rfl (Y.fieldP fd99_1 rfl) ?_
      refine L.y rfl (Y.loadP (i := 0) ag3 rfl rfl rfl) ?_
      obtain ⟨b38, e39, h⟩ := bind1S h
      refine L.y rfl (Y.does en116 rfl (fun w' hw => (w116_quirref_ended a0 x23.Tx u0 w' _ e39 (hA0.cls0 hw)).mono (fun _ _ h => h.1))) ?_
      rcases b38 with _ | _
      ·
       replace h := iteF h
       refine L.y rfl (Y.move rfl) ?_
       refine L.take rfl (L.y rfl (Y.fieldP fd99_0 rfl) ?_)
       refine L.take rfl (L.y rfl (Y.loadP (i := 0) ag3 rfl rfl rfl) ?_)
       refine L.take rfl (L.ite h rfl (Y.neq rfl rfl) (fun c40 h => ?_) (fun c40 h => ?_))
       ·
        refine L.y rfl (Y.pickF rfl rfl) ?_
        refine L.nil (E.thenN (W.condT rfl ?_))
        refine W.exit (E.KSX (E.blockX (E.thenN (W.region (L.y rfl (Y.move rfl) ?_)))))
        refine L.m (V := fun x41 => .int .i64 x41) h rfl (Y.subM rfl rfl) (fun x41 ex41 h => ?_)
        refine L.y rfl (Y.assign rfl) ?_
        exact L.nil (E.againJ ⟨gv11, gl12, x41, gl14, gl15, rfl, rfl, by rw [hg2]; exact h⟩ (Nat.lt_succ_self _) ⟨rfl, rfl, rfl, rfl, rfl, rfl, trivial⟩ (fun _ hw => hw.sel [1, 2, 3, 4] (by decide) rfl))
       ·
        refine L.y rfl (Y.pickF rfl rfl) ?_
        refine L.nil (E.thenN (W.condF rfl ?_))
        exact W.skip (E.joinJ ⟨rfl, rfl, h⟩ ⟨rfl, rfl, rfl, rfl, rfl, rfl, rfl, trivial⟩ (fun _ hw => hw))
      ·
       replace h := iteT h
       refine L.y rfl (Y.move rfl) ?_
       refine L.pass rfl rfl (by nofun) ?_
       refine L.pass rfl rfl (by nofun) ?_
       refine L.pass rfl rfl (by nofun) ?_
       refine L.y rfl (Y.pickT rfl rfl) ?_
       refine L.nil (E.thenN (W.condT rfl ?_))
       refine W.exit (E.KSX (E.blockX (E.thenN (W.region (L.y rfl (Y.move rfl) ?_)))))
       refine L.m (V := fun x42 => .int .i64 x42) h rfl (Y.subM rfl rfl) (fun x42 ex42 h => ?_)
       refine L.y rfl (Y.assign rfl) ?_
       exact L.nil (E.againJ ⟨gv11, gl12, x42, gl14, gl15, rfl, rfl, by rw [hg2]; exact h⟩ (Nat.lt_succ_self _) ⟨rfl, rfl, rfl, rfl, rfl, rfl, trivial⟩ (fun _ hw => hw.sel [1, 2, 3, 4] (by decide) rfl))
     ·
      rintro _ _ ⟨rfl, rfl, h⟩
      rw [m61_quirref_Recover_K5] at h
      refine W.seq (W.drawn2 (k := 16) (stC [[14]] [Cls w [] [.obj b24 [.int .i64 x23.Kind, .int .i64 x23.Tx, .int .i64 x23.Item, .int .i64 x23.Old, .int .i64 x23.New] 99, .obj b6 ((gl14.map B).flatten) 167, .obj b2 (((List.replicate 20 ((⟨0, 0⟩ : TPage) : TPage)).map TPage.row).flatten) 88, .obj b1 ((gl15.map TPage.row).flatten) 88, .sl gv11 99 5 (gl12.map TRec.row)]] (Cls w [] [.obj b24 [.int .i64 x23.Kind, .int .i64 x23.Tx, .int .i64 x23.Item, .int .i64 x23.Old, .int .i64 x23.New] 99, .obj b6 ((gl14.map B).flatten) 167, .obj b2 (((List.replicate 20 ((⟨0, 0⟩ : TPage) : TPage)).map TPage.row).flatten) 88, .obj b1 ((gl15.map TPage.row).flatten) 88])) rfl mixed (fun _ hw => hw.drew) (Sc.now (by kernel_rfl) (fun _ hw => hw)) ?_)
      refine V2.y (i := 0) (Nx2.of (Z := Cls w [] [.obj b24 [.int .i64 x23.Kind, .int .i64 x23.Tx, .int .i64 x23.Item, .int .i64 x23.Old, .int .i64 x23.New] 99, .obj b6 ((gl14.map B).flatten) 167, .obj b2 (((List.replicate 20 ((⟨0, 0⟩ : TPage) : TPage)).map TPage.row).flatten) 88, .obj b1 ((gl15.map TPage.row).flatten) 88]) [] (by kernel_rfl) rfl (Zc.on (fun _ hw => hw.sel [0, 1, 2, 3] (by decide) rfl) (Zc.fin (fun _ hw => hw)))) rfl rfl rfl (Y.move rfl) ?_
      refine V2.y (i := 1) (Nx2.of (Z := Cls w [] [.obj b24 [.int .i64 x23.Kind, .int .i64 x23.Tx, .int .i64 x23.Item, .int .i64 x23.Old, .int .i64 x23.New] 99, .obj b6 ((gl14.map B).flatten) 167, .obj b2 (((List.replicate 20 ((⟨0, 0⟩ : TPage) : TPage)).map TPage.row).flatten) 88, .obj b1 ((gl15.map TPage.row).flatten) 88]) [] (by kernel_rfl) rfl (Zc.on (fun _ hw => hw.sel [0, 1, 2, 3] (by decide) rfl) (Zc.fin (fun _ hw => hw)))) rfl rfl rfl (Y.fieldP fd99_1 rfl) ?_
      refine V2.y (i := 2) (Nx2.of (Z := Cls w [] [.obj b24 [.int .i64 x23.Kind, .int .i64 x23.Tx, .int .i64 x23.Item, .int .i64 x23.Old, .int .i64 x23.New] 99, .obj b6 ((gl14.map B).flatten) 167, .obj b2 (((List.replicate 20 ((⟨0, 0⟩ : TPage) : TPage)).map TPage.row).flatten) 88, .obj b1 ((gl15.map TPage.row).flatten) 88]) [] (by kernel_rfl) rfl (Zc.on (fun _ hw => hw.sel [0, 1, 2, 3] (by decide) rfl) (Zc.fin (fun _ hw => hw)))) rfl rfl rfl (Y.loadP (i := 0) ag3 rfl rfl rfl) ?_
      refine V2.y (i := 3) (Nx2.of (Z := Cls w [] [.obj b24 [.int .i64 x23.Kind, .int .i64 x23.Tx, .int .i64 x23.Item, .int .i64 x23.Old, .int .i64 x23.New] 99, .obj b6 ((gl14.map B).flatten) 167, .obj b2 (((List.replicate 20 ((⟨0, 0⟩ : TPage) : TPage)).map TPage.row).flatten) 88, .obj b1 ((gl15.map TPage.row).flatten) 88]) [] (by kernel_rfl) rfl (Zc.on (fun _ hw => hw.sel [0, 1, 2, 3] (by decide) rfl) (Zc.fin (fun _ hw => hw)))) rfl rfl rfl (Y.fieldP fd99_2 rfl) ?_
      refine V2.y (i := 4) (Nx2.of (Z := Cls w [] [.obj b24 [.int .i64 x23.Kind, .int .i64 x23.Tx, .int .i64 x23.Item, .int .i64 x23.Old, .int .i64 x23.New] 99, .obj b6 ((gl14.map B).flatten) 167, .obj b2 (((List.replicate 20 ((⟨0, 0⟩ : TPage) : TPage)).map TPage.row).flatten) 88, .obj b1 ((gl15.map TPage.row).flatten) 88]) [] (by kernel_rfl) rfl (Zc.on (fun _ hw => hw.sel [0, 1, 2, 3] (by decide) rfl) (Zc.fin (fun _ hw => hw)))) rfl rfl rfl (Y.loadP (i := 0) ag3 rfl rfl rfl) ?_
      refine V2.y (i := 5) (Nx2.of (Z := Cls w [] [.obj b24 [.int .i64 x23.Kind, .int .i64 x23.Tx, .int .i64 x23.Item, .int .i64 x23.Old, .int .i64 x23.New] 99, .obj b6 ((gl14.map B).flatten) 167, .obj b2 (((List.replicate 20 ((⟨0, 0⟩ : TPage) : TPage)).map TPage.row).flatten) 88, .obj b1 ((gl15.map TPage.row).flatten) 88]) [] (by kernel_rfl) rfl (Zc.on (fun _ hw => hw.sel [0, 1, 2, 3] (by decide) rfl) (Zc.fin (fun _ hw => hw)))) rfl rfl rfl (Y.fieldP fd99_2 rfl) ?_
      refine V2.y (i := 6) (Nx2.of (Z := Cls w [] [.obj b24 [.int .i64 x23.Kind, .int .i64 x23.Tx, .int .i64 x23.Item, .int .i64 x23.Old, .int .i64 x23.New] 99, .obj b6 ((gl14.map B).flatten) 167, .obj b2 (((List.replicate 20 ((⟨0, 0⟩ : TPage) : TPage)).map TPage.row).flatten) 88, .obj b1 ((gl15.map TPage.row).flatten) 88]) [] (by kernel_rfl) rfl (Zc.on (fun _ hw => hw.sel [0, 1, 2, 3] (by decide) rfl) (Zc.fin (fun _ hw => hw)))) rfl rfl rfl (Y.loadP (i := 0) ag3 rfl rfl rfl) ?_
      refine V2.m (i := 7) (V' := fun _ => pt b1 (0 + x23.Item.toNat * 2)) h (Nx2.of (Z := Cls w [] [.obj b24 [.int .i64 x23.Kind, .int .i64 x23.Tx, .int .i64 x23.Item, .int .i64 x23.Old, .int .i64 x23.New] 99, .obj b6 ((gl14.map B).flatten) 167, .obj b2 (((List.replicate 20 ((⟨0, 0⟩ : TPage) : TPage)).map TPage.row).flatten) 88, .obj b1 ((gl15.map TPage.row).flatten) 88]) [] (by kernel_rfl) rfl (Zc.on (fun _ hw => hw.sel [0, 1, 2, 3] (by decide) rfl) (Zc.fin (fun _ hw => hw)))) rfl rfl rfl (Y.indexAM (l := gl15) Try.underlying88 sz87 rfl rfl) (fun x29 ex29 h => ?_)
      refine V2.y (i := 8) (Nx2.of (Z := Cls w [] [.obj b24 [.int .i64 x23.Kind, .int .i64 x23.Tx, .int .i64 x23.Item, .int .i64 x23.Old, .int .i64 x23.New] 99, .obj b6 ((gl14.map B).flatten) 167, .obj b2 (((List.replicate 20 ((⟨0, 0⟩ : TPage) : TPage)).map TPage.row).flatten) 88, .obj b1 ((gl15.map TPage.row).flatten) 88]) [] (by kernel_rfl) rfl (Zc.on (fun _ hw => hw.sel [0, 1, 2, 3] (by decide) rfl) (Zc.fin (fun _ hw => hw)))) rfl rfl rfl (Y.fieldP fd87_0 rfl) ?_
      refine V2.y (i := 9) (Nx2.of (Z := Cls w [] [.obj b24 [.int .i64 x23.Kind, .int .i64 x23.Tx, .int .i64 x23.Item, .int .i64 x23.Old, .int .i64 x23.New] 99, .obj b6 ((gl14.map B).flatten) 167, .obj b2 (((List.replicate 20 ((⟨0, 0⟩ : TPage) : TPage)).map TPage.row).flatten) 88, .obj b1 ((gl15.map TPage.row).flatten) 88]) [] (by kernel_rfl) rfl (Zc.on (fun _ hw => hw.sel [0, 1, 2, 3] (by decide) rfl) (Zc.fin (fun _ hw => hw)))) rfl rfl rfl (Y.loadAr (q := 3) (row := TPage.row) (j := 0) (p := .int .i64 x29.Value_) ag3 rfl rfl rfl (fun _ => rfl) (idxA_idx ex29) rfl) ?_
      refine V2.y (i := 10) (Nx2.of (Z := Cls w [] [.obj b24 [.int .i64 x23.Kind, .int .i64 x23.Tx, .int .i64 x23.Item, .int .i64 x23.Old, .int .i64 x23.New] 99, .obj b6 ((gl14.map B).flatten) 167, .obj b2 (((List.replicate 20 ((⟨0, 0⟩ : TPage) : TPage)).map TPage.row).flatten) 88, .obj b1 ((gl15.map TPage.row).flatten) 88]) [] (by kernel_rfl) rfl (Zc.on (fun _ hw => hw.sel [0, 1, 2, 3] (by decide) rfl) (Zc.fin (fun _ hw => hw)))) rfl rfl rfl (Y.fieldP fd99_3 rfl) ?_
      refine V2.y (i := 11) (Nx2.of (Z := Cls w [] [.obj b24 [.int .i64 x23.Kind, .int .i64 x23.Tx, .int .i64 x23.Item, .int .i64 x23.Old, .int .i64 x23.New] 99, .obj b6 ((gl14.map B).flatten) 167, .obj b2 (((List.replicate 20 ((⟨0, 0⟩ : TPage) : TPage)).map TPage.row).flatten) 88, .obj b1 ((gl15.map TPage.row).flatten) 88]) [] (by kernel_rfl) rfl (Zc.on (fun _ hw => hw.sel [0, 1, 2, 3] (by decide) rfl) (Zc.fin (fun _ hw => hw)))) rfl rfl rfl (Y.loadP (i := 0) ag3 rfl rfl rfl) ?_
      refine V2.y (i := 12) (Nx2.of (Z := Cls w [] [.obj b24 [.int .i64 x23.Kind, .int .i64 x23.Tx, .int .i64 x23.Item, .int .i64 x23.Old, .int .i64 x23.New] 99, .obj b6 ((gl14.map B).flatten) 167, .obj b2 (((List.replicate 20 ((⟨0, 0⟩ : TPage) : TPage)).map TPage.row).flatten) 88, .obj b1 ((gl15.map TPage.row).flatten) 88]) [] (by kernel_rfl) rfl (Zc.on (fun _ hw => hw.sel [0, 1, 2, 3] (by decide) rfl) (Zc.fin (fun _ hw => hw)))) rfl rfl rfl (Y.build (cells := #[.int .i64 1, .int .i64 x23.Tx, .int .i64 x23.Item, .int .i64 x29.Value_, .int .i64 x23.Old]) rfl (by kernel_rfl)) ?_
      refine V2.eff (i := 13) (by kernel_rfl) rfl ?_
      refine L.litAgg rfl Try.underlying85 el99 rfl rfl rfl ?_
      intro b30
      refine L.nil (E.toV2 (stC [[14]] [Cls w [] [.sl (sv b30 1) 99 5 (([(⟨1, x23.Tx, x23.Item, x29.Value_, x23.Old⟩ : TRec)]).map TRec.row), .obj b24 [.int .i64 x23.Kind, .int .i64 x23.Tx, .int .i64 x23.Item, .int .i64 x23.Old, .int .i64 x23.New] 99, .obj b6 ((gl14.map B).flatten) 167, .obj b2 (((List.replicate 20 ((⟨0, 0⟩ : TPage) : TPage)).map TPage.row).flatten) 88, .obj b1 ((gl15.map TPage.row).flatten) 88, .sl gv11 99 5 (gl12.map TRec.row)]] (Cls w [] [.sl (sv b30 1) 99 5 (([(⟨1, x23.Tx, x23.Item, x29.Value_, x23.Old⟩ : TRec)]).map TRec.row), .obj b24 [.int .i64 x23.Kind, .int .i64 x23.Tx, .int .i64 x23.Item, .int .i64 x23.Old, .int .i64 x23.New] 99, .obj b6 ((gl14.map B).flatten) 167, .obj b2 (((List.replicate 20 ((⟨0, 0⟩ : TPage) : TPage)).map TPage.row).flatten) 88, .obj b1 ((gl15.map TPage.row).flatten) 88])) 13 (by kernel_rfl) (Sc.stay (fun _ hw => hw.sel [1, 2, 3, 4, 5] (by decide) rfl) (Sc.stayD (fun _ hw => hw.sel [1, 2, 3, 4] (by decide) rfl))) (Sc.now (by kernel_rfl) (fun _ hw => hw)) ?_)
      refine V2.eff (i := 14) (by kernel_rfl) rfl ?_
      refine L.appM (i := 5) (g := TRec.row) (l := gl12) (more := [(⟨1, x23.Tx, x23.Item, x29.Value_, x23.Old⟩ : TRec)]) h rfl Try.underlying85 el99 rfl rfl rfl (fun w hw => As.at_ (hw.get (i := 0) rfl)) (plain_TRec _) rfl ?_
      intro v31 l32 el32 h
      refine L.nil (E.toV2 (stC [] [] (Cls w [] [.sl v31 99 5 (l32.map TRec.row), .sl (sv b30 1) 99 5 (([(⟨1, x23.Tx, x23.Item, x29.Value_, x23.Old⟩ : TRec)]).map TRec.row), .obj b24 [.int .i64 x23.Kind, .int .i64 x23.Tx, .int .i64 x23.Item, .int .i64 x23.Old, .int .i64 x23.New] 99, .obj b6 ((gl14.map B).flatten) 167, .obj b2 (((List.replicate 20 ((⟨0, 0⟩ : TPage) : TPage)).map TPage.row).flatten) 88, .obj b1 ((gl15.map TPage.row).flatten) 88])) 14 (by kernel_rfl) (Sc.past rfl (Sc.stayD (fun _ hw => hw.sel [1, 2, 3, 4, 5] (by decide) rfl))) (Sc.atD (fun _ hw => hw)) ?_)
      refine V2.y (i := 15) (Nx2.of (Z := Cls w [] [.sl v31 99 5 (l32.map TRec.row), .sl (sv b30 1) 99 5 (([(⟨1, x23.Tx, x23.Item, x29.Value_, x23.Old⟩ : TRec)]).map TRec.row), .obj b24 [.int .i64 x23.Kind, .int .i64 x23.Tx, .int .i64 x23.Item, .int .i64 x23.Old, .int .i64 x23.New] 99, .obj b6 ((gl14.map B).flatten) 167, .obj b2 (((List.replicate 20 ((⟨0, 0⟩ : TPage) : TPage)).map TPage.row).flatten) 88, .obj b1 ((gl15.map TPage.row).flatten) 88]) [] (by kernel_rfl) rfl (Zc.fin (fun _ hw => hw))) rfl rfl rfl (Y.assign rfl) ?_
      refine V2.done (by kernel_rfl) ?_
      refine E.thenN (W.seq (W.region (L.y rfl (Y.fieldP fd99_2 rfl) ?_)))
      refine L.y rfl (Y.loadP (i := 2) ag3 rfl rfl rfl) ?_
      refine L.y rfl (Y.fieldP fd99_3 rfl) ?_
      refine L.y rfl (Y.loadP (i := 2) ag3 rfl rfl rfl) ?_
      refine L.y rfl (Y.move rfl) ?_
      refine L.y rfl (Y.lenM (g := TRec.row) (l := l32) Try.underlying85 rfl (fun w hw => As.at_ (hw.get (i := 0) rfl))) ?_
      refine L.y rfl (Y.build (cells := #[.int .i64 x23.Old, .int .i64 (l32.length : Int)]) rfl (by kernel_rfl)) ?_
      refine L.m (V := fun _ => pt b1 (0 + x23.Item.toNat * 2)) h rfl (Y.indexAM (l := gl15) Try.underlying88 sz87 rfl rfl) (fun x33 ex33 h => ?_)
      refine L.storeArM (q := 5) (row := TPage.row) (vs := [.int .i64 x23.Old, .int .i64 (l32.length : Int)]) (j := 0) (u1 := (⟨x23.Old, (l32.length : Int)⟩ : TPage)) h sz87 rfl rfl rfl rfl rfl (all1 rfl (all1 rfl all0)) rfl (fun _ => rfl) (idxA_idx ex33) rfl rfl ?_
      intro l34 el34 h
      refine L.nil (E.thenN (W.region (L.y rfl (Y.fieldP fd99_1 rfl) ?_)))
      refine L.y rfl (Y.loadP (i := 2) ag3 rfl rfl rfl) ?_
      refine L.m (V := fun _ => pt b6 (0 + x23.Tx.toNat * 1)) h rfl (Y.indexAM (l := gl14) Try.underlying167 sz4 rfl rfl) (fun x35 ex35 h => ?_)
      refine L.storeArM (q := 3) (row := B) (vs := [.bool true]) (j := 0) (u1 := true) h sz4 rfl rfl rfl rfl rfl (all1 rfl all0) rfl (fun _ => rfl) (idxA_idx ex35) rfl rfl ?_
      intro l36 el36 h
      refine L.nil (E.blockN (E.thenN (W.region (L.y rfl (Y.move rfl) ?_))))
      refine L.m (V := fun x37 => .int .i64 x37) h rfl (Y.subM rfl rfl) (fun x37 ex37 h => ?_)
      refine L.y rfl (Y.assign rfl) ?_
      exact L.nil (E.againJ ⟨v31, l32, x37, l36, l34, rfl, rfl, by rw [hg2]; exact h⟩ (Nat.lt_succ_self _) ⟨rfl, rfl, rfl, rfl, rfl, rfl, trivial⟩ (fun _ hw => hw.sel [3, 4, 5, 0] (by decide) rfl))
   ·
    rintro _ _ ⟨gv2, gl3, gl4, gl5, rfl, rfl, h⟩
    rw [m61_quirref_Recover_K2] at h
    refine W.seqJ (fun gs D => ∃ (gv6 : Value) (gl7 : (List TRec)), gs = [(3, pt b1 0), (5, pt b2 0), (8, gv6)] ∧ D = Cls w [] [.obj b2 (((List.replicate 20 ((⟨0, 0⟩ : TPage) : TPage)).map TPage.row).flatten) 88, .obj b1 ((gl5.map TPage.row).flatten) 88, .sl gv6 99 5 (gl7.map TRec.row)] ∧ m61_quirref_Recover_K3 gl5 gl7 = some r) ?_ ?_
    ·
     refine W.seq (W.region (L.y rfl (Y.move rfl) ?_))
     refine L.nil (E.thenN (W.block (W.loopJ (fun m gs D => ∃ (gv8 : Value) (gl9 : (List TRec)) (gx10 : Int), gs = [(3, pt b1 0), (5, pt b2 0), (8, gv8), (9, pt b6 0), (89, .int .i64 gx10)] ∧ D = Cls w [] [.obj b6 ((gl4.map B).flatten) 167, .obj b2 (((List.replicate 20 ((⟨0, 0⟩ : TPage) : TPage)).map TPage.row).flatten) 88, .obj b1 ((gl5.map TPage.row).flatten) 88, .sl gv8 99 5 (gl9.map TRec.row)] ∧ m61_quirref_Recover_L1 gl4 gl5 m gl9 gx10 = some r) ⟨gv2, gl3, 0, rfl, rfl, h⟩ ⟨rfl, rfl, rfl, rfl, rfl, trivial⟩ (fun _ hw => hw) ?_)))
     rintro m _ _ ⟨gv8, gl9, gx10, rfl, rfl, h⟩
     rcases m with _ | m
     · rw [m61_quirref_Recover_L1] at h; cases h
     rw [m61_quirref_Recover_L1] at h
     generalize hg1 : m61_quirref_Recover_L1 gl4 gl5 m = go1 at h
     rw [m61_quirref_Recover_L1B] at h
     refine W.seq (W.region (L.ite h rfl (Y.lss rfl rfl) (fun c14 h => ?_) (fun c14 h => ?_)))
     ·
      refine L.nil (E.thenN (W.seq (W.condT rfl ?_)))
      refine W.skip (E.thenN (W.seq (W.block (W.seq (W.region (L.y rfl (Y.move rfl) ?_))))))
      refine L.y rfl (Y.assign rfl) ?_
      refine L.nil (E.thenN (W.seq (W.region (L.y rfl (Y.move rfl) ?_))))
      refine L.m (V := fun _ => pt b6 (0 + gx10.toNat * 1)) h rfl (Y.indexAM (l := gl4) Try.underlying167 sz4 rfl rfl) (fun x15 ex15 h => ?_)
      refine L.iteB h rfl (Y.loadAr (q := 0) (row := B) (j := 0) (p := .bool x15) ag4 rfl rfl rfl (fun _ => rfl) (idxA_idx ex15) rfl) (fun c16 h => ?_) (fun c16 h => ?_)
      ·
       refine L.nil (E.thenN (W.condT rfl ?_))
       refine W.region (L.y rfl (Y.move rfl) ?_)
       refine L.y rfl (Y.move rfl) ?_
       refine L.y rfl (Y.build (cells := #[.int .i64 3, .int .i64 gx10, .int .i64 0, .int .i64 0, .int .i64 0]) rfl (by kernel_rfl)) ?_
       refine L.litAgg rfl Try.underlying85 el99 rfl rfl rfl ?_
       intro b17
       refine L.appM (i := 4) (g := TRec.row) (l := gl9) (more := [(⟨3, gx10, 0, 0, 0⟩ : TRec)]) h rfl Try.underlying85 el99 rfl rfl rfl (fun w hw => As.at_ (hw.get (i := 0) rfl)) (plain_TRec _) rfl ?_
       intro v18 l19 el19 h
       refine L.y rfl (Y.assign rfl) ?_
       refine L.nil (E.blockN (E.thenN (W.region (L.m (V := fun x20 => .int .i64 x20) h rfl (Y.addM rfl rfl) (fun x20 ex20 h => ?_)))))
       refine L.y rfl (Y.move rfl) ?_
       exact L.nil (E.againJ ⟨v18, l19, x20, rfl, rfl, by rw [hg1]; exact h⟩ (Nat.lt_succ_self _) ⟨rfl, rfl, rfl, rfl, rfl, trivial⟩ (fun _ hw => hw.sel [2, 3, 4, 0] (by decide) rfl))
      ·
       refine L.nil (E.thenN (W.condF rfl ?_))
       refine W.skip (E.blockN (E.thenN (W.region (L.m (V := fun x21 => .int .i64 x21) h rfl (Y.addM rfl rfl) (fun x21 ex21 h => ?_)))))
       refine L.y rfl (Y.move rfl) ?_
       exact L.nil (E.againJ ⟨gv8, gl9, x21, rfl, rfl, by rw [hg1]; exact h⟩ (Nat.lt_succ_self _) ⟨rfl, rfl, rfl, rfl, rfl, trivial⟩ (fun _ hw => hw))
     ·
      refine L.nil (E.thenN (W.seq (W.condF rfl ?_)))
      exact W.exit (E.thenX (E.KLX (E.blockX (E.joinJ ⟨gv8, gl9, rfl, rfl, h⟩ ⟨rfl, rfl, rfl, trivial⟩ (fun _ hw => hw.sel [1, 2, 3] (by decide) rfl)))))
    ·
     rintro _ _ ⟨gv6, gl7, rfl, rfl, h⟩
     rw [m61_quirref_Recover_K3] at h
     refine W.seq (W.drawn2 (k := 4) (stC [[3]] [Cls w [] [.obj b2 (((List.replicate 20 ((⟨0, 0⟩ : TPage) : TPage)).map TPage.row).flatten) 88, .obj b1 ((gl5.map TPage.row).flatten) 88, .sl gv6 99 5 (gl7.map TRec.row)]] (Cls w [] [.obj b1 ((gl5.map TPage.row).flatten) 88, .sl gv6 99 5 (gl7.map TRec.row)])) rfl mixed (fun _ hw => hw.drew) (Sc.now (by kernel_rfl) (fun _ hw => hw)) ?_)
     refine V2.y (i := 0) (Nx2.of (Z := Cls w [] [.obj b1 ((gl5.map TPage.row).flatten) 88, .sl gv6 99 5 (gl7.map TRec.row)]) [] (by kernel_rfl) rfl (Zc.on (fun _ hw => hw.sel [1, 2] (by decide) rfl) (Zc.fin (fun _ hw => hw)))) rfl rfl rfl (Y.move rfl) ?_
     obtain ⟨_, en10, h⟩ := bind1S h
     obtain ⟨_, en10⟩ := arrN_some en10
     refine V2.y (i := 1) (Nx2.of (Z := Cls w [] [.obj b1 ((gl5.map TPage.row).flatten) 88, .sl gv6 99 5 (gl7.map TRec.row)]) [] (by kernel_rfl) rfl (Zc.on (fun _ hw => hw.sel [1, 2] (by decide) rfl) (Zc.fin (fun _ hw => hw)))) rfl rfl rfl (Y.loadArAll (q := 0) (row := TPage.row) (k := 2) ag88 sz88 rfl rfl (fun _ => rfl) (by rw [en10])) ?_
     refine V2.y (i := 2) (Nx2.of (Z := Cls w [] [.obj b1 ((gl5.map TPage.row).flatten) 88, .sl gv6 99 5 (gl7.map TRec.row)]) [] (by kernel_rfl) rfl (Zc.on (fun _ hw => hw.sel [1, 2] (by decide) rfl) (Zc.fin (fun _ hw => hw)))) rfl rfl rfl (Y.assign rfl) ?_
     refine V2.eff (i := 3) (by kernel_rfl) rfl ?_
     obtain ⟨_, en11, h⟩ := bind1S h
     obtain ⟨_, en11⟩ := arrN_some en11
     obtain ⟨_, en12, h⟩ := bind1S h
     obtain ⟨_, en12⟩ := arrN_some en12
     refine L.storeArW (i := 0) (row := TPage.row) (k := 2) en11 en12 rfl (fun _ => rfl) (plain_TPage _) sz88 rfl rfl rfl ?_
     refine L.nil (E.toV2 (stC [] [] (Cls w [] [.obj b1 ((gl5.map TPage.row).flatten) 88, .sl gv6 99 5 (gl7.map TRec.row)])) 3 (by kernel_rfl) (Sc.past rfl (Sc.stayD (fun _ hw => hw))) (Sc.atD (fun _ hw => hw.sel [1, 2] (by decide) rfl)) ?_)
     refine V2.done (by kernel_rfl) ?_
     refine E.thenN (W.ret ?_)
     obtain ⟨_, en13, h⟩ := bind1S h
     obtain ⟨_, en13⟩ := arrN_some en13
     refine E.retR2 rfl (Rv.tmp rfl) (Rv.cellAr (i := 0) (row := TPage.row) (k := 2) ag88 sz88 rfl rfl (fun _ => rfl) (by rw [en13])) (fun w1 hw => ?_)
     obtain rfl := Option.some.inj h
     exact ⟨_, _, rfl, ⟨_, rfl, rfl⟩, hw.sel [2] (by decide) rfl⟩
set_option maxRecDepth 100000 in
set_option maxHeartbeats 8000000 in
theorem w62_quirref_Pages (a0 : (List TRec)) (a1 : (List Int)) (u0 : Value) (w : World) (r : (List TPage)) (h : m62_quirref_Pages a0 a1 = some r) (hA0 : At w u0 5 (a0.map TRec.row)) : Does Try.prog 62 [u0, .agg (a1.map I).flatten.toArray] w fun u m => u = .agg (r.map TPage.row).flatten.toArray ∧ m = [] := by
  rw [m62_quirref_Pages] at h
  refine body (n := 36) Try.func62 rfl rfl rfl (Cls.refl w) ?_
  refine W.seq (W.region (L.box rfl rfl ?_))
  intro b1
  refine L.to (D := Cls w [] [.obj b1 ((a1.map I).flatten) 76]) (fun _ hw => hw) ?_
  refine L.alloc rfl ze88 ?_
  intro b2
  refine L.to (D := Cls w [] [.obj b2 (((List.replicate 20 ((⟨0, 0⟩ : TPage) : TPage)).map TPage.row).flatten) 88, .obj b1 ((a1.map I).flatten) 76]) (fun _ hw => by first | exact hw | simpa [I, B, SR] using hw) ?_
  refine L.nil (E.thenN (W.seq (W.region (L.alloc rfl ze88 ?_))))
  intro b3
  refine L.to (D := Cls w [] [.obj b3 (((List.replicate 20 ((⟨0, 0⟩ : TPage) : TPage)).map TPage.row).flatten) 88, .obj b2 (((List.replicate 20 ((⟨0, 0⟩ : TPage) : TPage)).map TPage.row).flatten) 88, .obj b1 ((a1.map I).flatten) 76]) (fun _ hw => by first | exact hw | simpa [I, B, SR] using hw) ?_
  refine L.nil (E.thenN (W.seqJ (fun gs D => ∃ (gl1 : (List TPage)), gs = [(4, pt b2 0), (5, pt b3 0)] ∧ D = Cls w [] [.obj b3 ((gl1.map TPage.row).flatten) 88, .obj b2 (((List.replicate 20 ((⟨0, 0⟩ : TPage) : TPage)).map TPage.row).flatten) 88] ∧ m62_quirref_Pages_K1 gl1 = some r) ?_ ?_))
  ·
   refine W.seq (W.region (L.y rfl (Y.move rfl) ?_))
   refine L.nil (E.thenN (W.block (W.loopJ (fun m gs D => ∃ (gx2 : Int) (gl3 : (List TPage)), gs = [(0, u0), (3, pt b1 0), (4, pt b2 0), (5, pt b3 0), (8, .int .i64 gx2)] ∧ D = Cls w [] [.obj b3 ((gl3.map TPage.row).flatten) 88, .obj b2 (((List.replicate 20 ((⟨0, 0⟩ : TPage) : TPage)).map TPage.row).flatten) 88, .obj b1 ((a1.map I).flatten) 76] ∧ m62_quirref_Pages_L1 a1 a0 m gx2 gl3 = some r) ⟨0, (List.replicate 20 ((⟨0, 0⟩ : TPage) : TPage)), rfl, rfl, h⟩ ⟨rfl, rfl, rfl, rfl, rfl, trivial⟩ (fun _ hw => hw) ?_)))
   rintro m _ _ ⟨gx2, gl3, rfl, rfl, h⟩
   rcases m with _ | m
   · rw [m62_quirref_Pages_L1] at h; cases h
   rw [m62_quirref_Pages_L1] at h
   generalize hg1 : m62_quirref_Pages_L1 a1 a0 m = go1 at h
   rw [m62_quirref_Pages_L1B] at h
   refine W.seq (W.region (L.ite h rfl (Y.lss rfl rfl) (fun c8 h => ?_) (fun c8 h => ?_)))
   ·
    refine L.nil (E.thenN (W.seq (W.condT rfl ?_)))
    refine W.skip (E.thenN (W.seq (W.block (W.seq (W.region (L.y rfl (Y.move rfl) ?_))))))
    refine L.y rfl (Y.assign rfl) ?_
    refine L.nil (E.thenN (W.seq (W.region (L.y rfl (Y.move rfl) ?_))))
    refine L.y rfl (Y.move rfl) ?_
    refine L.m (V := fun _ => pt b1 (0 + gx2.toNat * 1)) h rfl (Y.indexAM (l := a1) Try.underlying76 sz3 rfl rfl) (fun x9 ex9 h => ?_)
    refine L.y rfl (Y.loadAr (q := 2) (row := I) (j := 0) (p := .int .i64 x9) ag3 rfl rfl rfl (fun _ => rfl) (idxA_idx ex9) rfl) ?_
    refine L.y rfl (Y.move rfl) ?_
    refine L.y rfl (Y.lenM (g := TRec.row) (l := a0) Try.underlying85 rfl (fun w' hw => hA0.cls0 hw)) ?_
    refine L.y rfl (Y.min2 rfl rfl) ?_
    refine L.y rfl (Y.max2 rfl rfl) ?_
    refine L.m (V := fun _ => cutv u0 (max 0 (min x9 (a0.length : Int))).toNat) h rfl (Y.cutM (g := TRec.row) Try.underlying85 sz99 rfl rfl (fun w' hw => hA0.cls0 hw)) (fun l10 el10 h => ?_)
    refine L.y rfl (Y.move rfl) ?_
    obtain ⟨x11, e12, h⟩ := bind1S h
    refine L.y rfl (Y.does en115 rfl (fun w' hw => (w115_quirref_lastUpdate l10 gx2 (cutv u0 (max 0 (min x9 (a0.length : Int))).toNat) w' _ e12 ((At.cutM hA0 el10).cls0 hw)).mono (fun _ _ h => h.1))) ?_
    refine L.y rfl (Y.assign rfl) ?_
    refine L.nil (E.thenN (W.seq (W.region (L.y rfl (Y.move rfl) ?_))))
    refine L.ite h rfl (Y.geq rfl rfl) (fun c13 h => ?_) (fun c13 h => ?_)
    ·
     refine L.nil (E.thenN (W.condT rfl ?_))
     refine W.region (L.y rfl (Y.move rfl) ?_)
     refine L.y rfl (Y.move rfl) ?_
     refine L.y rfl (Y.move rfl) ?_
     refine L.m (V := fun _ => el u0 (x11.toNat * 5)) h rfl (Y.indexM (g := TRec.row) (l := a0) Try.underlying85 sz99 rfl rfl (fun w' hw => hA0.cls0 hw)) (fun x14 ex14 h => ?_)
     refine L.y rfl (Y.fieldE fd99_4 rfl) ?_
     refine L.y rfl (Y.loadE (u := .int .i64 x14.New) ag3 rfl (fun w' hw => hA0.cls0 hw) (idx_map ex14) rfl) ?_
     refine L.y rfl (Y.move rfl) ?_
     refine L.m (V := fun x15 => .int .i64 x15) h rfl (Y.addM rfl rfl) (fun x15 ex15 h => ?_)
     refine L.y rfl (Y.build (cells := #[.int .i64 x14.New, .int .i64 x15]) rfl (by kernel_rfl)) ?_
     refine L.m (V := fun _ => pt b3 (0 + gx2.toNat * 2)) h rfl (Y.indexAM (l := gl3) Try.underlying88 sz87 rfl rfl) (fun x16 ex16 h => ?_)
     refine L.storeArM (q := 0) (row := TPage.row) (vs := [.int .i64 x14.New, .int .i64 x15]) (j := 0) (u1 := (⟨x14.New, x15⟩ : TPage)) h sz87 rfl rfl rfl rfl rfl (all1 rfl (all1 rfl all0)) rfl (fun _ => rfl) (idxA_idx ex16) rfl rfl ?_
     intro l17 el17 h
     refine L.nil (E.blockN (E.thenN (W.region (L.m (V := fun x18 => .int .i64 x18) h rfl (Y.addM rfl rfl) (fun x18 ex18 h => ?_)))))
     refine L.y rfl (Y.move rfl) ?_
     exact L.nil (E.againJ ⟨x18, l17, rfl, rfl, by rw [hg1]; exact h⟩ (Nat.lt_succ_self _) ⟨rfl, rfl, rfl, rfl, rfl, trivial⟩ (fun _ hw => hw))
    ·
     refine L.nil (E.thenN (W.condF rfl ?_))
     refine W.skip (E.blockN (E.thenN (W.region (L.m (V := fun x19 => .int .i64 x19) h rfl (Y.addM rfl rfl) (fun x19 ex19 h => ?_)))))
     refine L.y rfl (Y.move rfl) ?_
     exact L.nil (E.againJ ⟨x19, gl3, rfl, rfl, by rw [hg1]; exact h⟩ (Nat.lt_succ_self _) ⟨rfl, rfl, rfl, rfl, rfl, trivial⟩ (fun _ hw => hw))
   ·
    refine L.nil (E.thenN (W.seq (W.condF rfl ?_)))
    exact W.exit (E.thenX (E.KLX (E.blockX (E.joinJ ⟨gl3, rfl, rfl, h⟩ ⟨rfl, rfl, trivial⟩ (fun _ hw => hw.sel [0, 1] (by decide) rfl)))))
  ·
   rintro _ _ ⟨gl1, rfl, rfl, h⟩
   rw [m62_quirref_Pages_K1] at h
   refine W.seq (W.region ?_)
   obtain ⟨_, en4, h⟩ := bind1S h
   obtain ⟨_, en4⟩ := arrN_some en4
   refine L.y rfl (Y.loadArAll (q := 0) (row := TPage.row) (k := 2) ag88 sz88 rfl rfl (fun _ => rfl) (by rw [en4])) ?_
   obtain ⟨_, en5, h⟩ := bind1S h
   obtain ⟨_, en5⟩ := arrN_some en5
   obtain ⟨_, en6, h⟩ := bind1S h
   obtain ⟨_, en6⟩ := arrN_some en6
   refine L.storeArW (i := 1) (row := TPage.row) (k := 2) en5 en6 rfl (fun _ => rfl) (plain_TPage _) sz88 rfl rfl rfl ?_
   refine L.nil (E.thenN (W.ret ?_))
   obtain ⟨_, en7, h⟩ := bind1S h
   obtain ⟨_, en7⟩ := arrN_some en7
   refine E.retR1 rfl (Rv.cellAr (i := 1) (row := TPage.row) (k := 2) ag88 sz88 rfl rfl (fun _ => rfl) (by rw [en7])) (fun w1 hw => ?_)
   obtain rfl := Option.some.inj h
   exact ⟨_, _, rfl, ⟨rfl, rfl⟩, hw.sel [] (by decide) rfl⟩
set_option maxRecDepth 100000 in
set_option maxHeartbeats 8000000 in
theorem w63_api_Rec (a0 : (List TRec)) (a1 : (List TRec)) (u0 : Value) (u1 : Value) (w : World) (r : Bool) (h : m63_api_Rec a0 a1 = some r) (hA0 : At w u0 5 (a0.map TRec.row)) (hA1 : At w u1 5 (a1.map TRec.row)) : Does Try.prog 63 [u0, u1] w fun u m => u = .bool r ∧ m = [] := by
  rw [m63_api_Rec] at h
  refine body (n := 26) Try.func63 rfl rfl rfl (Cls.refl w) ?_
  refine W.seq (W.region (L.y rfl (Y.assign rfl) ?_))
  refine L.nil (E.thenN (W.seqJ (fun gs D => gs = [(0, u0), (1, u1)] ∧ D = Cls w [] [] ∧ m63_api_Rec_K1 a0 a1 = some r) ?_ ?_))
  ·
   refine W.seq (W.region (L.y rfl (Y.move rfl) ?_))
   refine L.y rfl (Y.lenM (g := TRec.row) (l := a0) Try.underlying85 rfl (fun w' hw => hA0.cls0 hw)) ?_
   refine L.y rfl (Y.move rfl) ?_
   refine L.y rfl (Y.lenM (g := TRec.row) (l := a1) Try.underlying85 rfl (fun w' hw => hA1.cls0 hw)) ?_
   refine L.ite h rfl (Y.neq rfl rfl) (fun c6 h => ?_) (fun c6 h => ?_)
   ·
    refine L.nil (E.thenN (W.condT rfl ?_))
    refine W.seq (W.region (L.y rfl (Y.assign rfl) ?_))
    refine L.nil (E.thenN (W.ret (E.KSR (E.ret1 rfl rfl (fun w1 hw => ?_)))))
    obtain rfl := Option.some.inj h
    exact ⟨_, _, rfl, ⟨rfl, rfl⟩, hw⟩
   ·
    refine L.nil (E.thenN (W.condF rfl ?_))
    exact W.skip (E.joinJ ⟨rfl, rfl, h⟩ ⟨rfl, rfl, trivial⟩ (fun _ hw => hw))
  ·
   rintro _ _ ⟨rfl, rfl, h⟩
   rw [m63_api_Rec_K1] at h
   refine W.seqJ (fun gs D => gs = [] ∧ D = Cls w [] [] ∧ m63_api_Rec_K2 = some r) ?_ ?_
   ·
    refine W.seq (W.region (L.y rfl (Y.move rfl) ?_))
    refine L.y rfl (Y.lenM (g := TRec.row) (l := a0) Try.underlying85 rfl (fun w' hw => hA0.cls0 hw)) ?_
    refine L.y rfl (Y.move rfl) ?_
    refine L.nil (E.thenN (W.block (W.loopJ (fun m gs D => ∃ (gx1 : Int), gs = [(0, u0), (1, u1), (12, .int .i64 (a0.length : Int)), (13, .int .i64 gx1)] ∧ D = Cls w [] [] ∧ m63_api_Rec_L1 a0 a1 m gx1 = some r) ⟨0, rfl, rfl, h⟩ ⟨rfl, rfl, rfl, rfl, trivial⟩ (fun _ hw => hw) ?_)))
    rintro m _ _ ⟨gx1, rfl, rfl, h⟩
    rcases m with _ | m
    · rw [m63_api_Rec_L1] at h; cases h
    rw [m63_api_Rec_L1] at h
    generalize hg1 : m63_api_Rec_L1 a0 a1 m = go1 at h
    rw [m63_api_Rec_L1B] at h
    refine W.seq (W.region (L.ite h rfl (Y.lss rfl rfl) (fun c1 h => ?_) (fun c1 h => ?_)))
    ·
     refine L.nil (E.thenN (W.seq (W.condT rfl ?_)))
     refine W.skip (E.thenN (W.seq (W.block (W.seq (W.region (L.y rfl (Y.move rfl) ?_))))))
     refine L.y rfl (Y.assign rfl) ?_
     refine L.nil (E.thenN (W.seq (W.quietC mixed (by kernel_rfl) (fun _ hw => hw.drew) (fun hC => ?_))))
     refine U.y rfl (Y.move rfl) ?_
     refine U.y rfl (Y.move rfl) ?_
     refine U.m (V := fun _ => el u0 (gx1.toNat * 5)) h rfl (Y.indexM (g := TRec.row) (l := a0) Try.underlying85 sz99 rfl rfl (fun w' hw => hA0.cls0 hw)) (fun x2 ex2 h => ?_)
     refine U.y rfl (Y.loadEN (r := [.int .i64 x2.Kind, .int .i64 x2.Tx, .int .i64 x2.Item, .int .i64 x2.Old, .int .i64 x2.New]) ag99 sz99 rfl (fun w' hw => hA0.cls0 hw) (idx_map ex2) rfl) ?_
     refine U.y rfl (Y.move rfl) ?_
     refine U.y rfl (Y.move rfl) ?_
     refine U.m (V := fun _ => el u1 (gx1.toNat * 5)) h rfl (Y.indexM (g := TRec.row) (l := a1) Try.underlying85 sz99 rfl rfl (fun w' hw => hA1.cls0 hw)) (fun x3 ex3 h => ?_)
     refine U.y rfl (Y.loadEN (r := [.int .i64 x3.Kind, .int .i64 x3.Tx, .int .i64 x3.Item, .int .i64 x3.Old, .int .i64 x3.New]) ag99 sz99 rfl (fun w' hw => hA1.cls0 hw) (idx_map ex3) rfl) ?_
     refine U.ite h rfl (Y.neqA (row := TRec.row) (a := x2) (b := x3) eg99 ag99 (sh99 _) (sh99 _) (inj99 _ _) rfl rfl) (fun c4 h => ?_) (fun c4 h => ?_)
     ·
      refine U.nil (E.thenN (W.condT rfl ?_))
      refine W.seq (W.region (L.y rfl (Y.assign rfl) ?_))
      refine L.nil (E.thenN (W.ret (E.blockR (E.thenR (E.KLR (E.blockR (E.KSR (E.ret1 rfl rfl (fun w1 hw => ?_)))))))))
      obtain rfl := Option.some.inj h
      exact ⟨_, _, rfl, ⟨rfl, rfl⟩, hw⟩
     ·
      refine U.nil (E.thenN (W.condF rfl ?_))
      refine W.skip (E.blockN (E.thenN (W.region (L.m (V := fun x5 => .int .i64 x5) h rfl (Y.addM rfl rfl) (fun x5 ex5 h => ?_)))))
      refine L.y rfl (Y.move rfl) ?_
      exact L.nil (E.againJ ⟨x5, rfl, rfl, by rw [hg1]; exact h⟩ (Nat.lt_succ_self _) ⟨rfl, rfl, rfl, rfl, trivial⟩ (fun _ hw => hw))
    ·
     refine L.nil (E.thenN (W.seq (W.condF rfl ?_)))
     exact W.exit (E.thenX (E.KLX (E.blockX (E.joinJ ⟨rfl, rfl, h⟩ trivial (fun _ hw => hw)))))
   ·
    rintro _ _ ⟨rfl, rfl, h⟩
    rw [m63_api_Rec_K2] at h
    refine W.seq (W.region (L.y rfl (Y.assign rfl) ?_))
    refine L.nil (E.thenN (W.ret (E.ret1 rfl rfl (fun w1 hw => ?_))))
    obtain rfl := Option.some.inj h
    exact ⟨_, _, rfl, ⟨rfl, rfl⟩, hw⟩
set_option maxRecDepth 100000 in
set_option maxHeartbeats 8000000 in
theorem w10_quirlaw_RedoSays (a0 : (List TRec)) (a1 : (List Int)) (a2 : (List TPage)) (u0 : Value) (w : World) (hz : w.drawn = 0) (r : Bool) (h : m10_quirlaw_RedoSays a0 a1 a2 = some r) (hA0 : At w u0 5 (a0.map TRec.row)) : Does0 Try.prog 10 [u0, .agg (a1.map I).flatten.toArray, .agg (a2.map TPage.row).flatten.toArray] w fun u m => u = .bool r ∧ m = [] := by
  rw [m10_quirlaw_RedoSays] at h
  refine body0 (n := 88) Try.func10 rfl rfl rfl hz ?_
  refine W.seq (W.region (L.box rfl rfl ?_))
  intro b1
  refine L.to (D := Cls w [] [.obj b1 ((a1.map I).flatten) 76]) (fun _ hw => hw) ?_
  refine L.box rfl rfl ?_
  intro b2
  refine L.to (D := Cls w [] [.obj b2 ((a2.map TPage.row).flatten) 88, .obj b1 ((a1.map I).flatten) 76]) (fun _ hw => hw) ?_
  refine L.y rfl (Y.assign rfl) ?_
  refine L.nil (E.thenN (W.seq (W.region (L.y rfl (Y.move rfl) ?_))))
  obtain ⟨x3, e4, h⟩ := bind1S h
  refine L.y rfl (Y.does en57 rfl (fun w' hw => (w57_quirref_LogErr a0 u0 w' _ e4 (hA0.cls0 hw)).mono (fun _ _ h => h.1))) ?_
  refine L.y rfl (Y.assign rfl) ?_
  refine L.nil (E.thenN (W.seq (W.region (L.y rfl (Y.move rfl) ?_))))
  obtain ⟨_, en5, h⟩ := bind1S h
  obtain ⟨_, en5⟩ := arrN_some en5
  refine L.y rfl (Y.loadArAll (q := 1) (row := I) (k := 1) ag76 sz76 rfl rfl (fun _ => rfl) (by rw [en5])) ?_
  obtain ⟨x6, x7, e8, h⟩ := bind2S h
  refine L.y rfl (Y.does en58 rfl (fun w' hw => (w58_redo_Pages a0 a1 u0 w' _ e8 (hA0.cls0 hw)).mono (fun _ _ h => h.1))) ?_
  refine L.y rfl (Y.move rfl) ?_
  refine L.y rfl (Y.extract rfl rfl) ?_
  refine L.y rfl (Y.extract rfl rfl) ?_
  refine L.alloc rfl ze88 ?_
  intro b9
  refine L.to (D := Cls w [] [.obj b9 (((List.replicate 20 ((⟨0, 0⟩ : TPage) : TPage)).map TPage.row).flatten) 88, .obj b2 ((a2.map TPage.row).flatten) 88, .obj b1 ((a1.map I).flatten) 76]) (fun _ hw => by first | exact hw | simpa [I, B, SR] using hw) ?_
  obtain ⟨_, en10, h⟩ := bind1S h
  obtain ⟨_, en10⟩ := arrN_some en10
  obtain ⟨_, en11, h⟩ := bind1S h
  obtain ⟨_, en11⟩ := arrN_some en11
  refine L.storeArW (i := 0) (row := TPage.row) (k := 2) en10 en11 rfl (fun _ => rfl) (plain_TPage _) sz88 rfl rfl rfl ?_
  refine L.y rfl (Y.assign rfl) ?_
  refine L.nil (E.thenN (W.seq (W.region (L.y rfl (Y.move rfl) ?_))))
  obtain ⟨_, en12, h⟩ := bind1S h
  obtain ⟨_, en12⟩ := arrN_some en12
  refine L.y rfl (Y.loadArAll (q := 1) (row := TPage.row) (k := 2) ag88 sz88 rfl rfl (fun _ => rfl) (by rw [en12])) ?_
  obtain ⟨l13, x15, x16, e17, h⟩ := bind3S h
  refine L.does0 hz rfl en59 rfl (fun w' hw hz' => w59_redo_Recover a0 a2 u0 w' hz' _ e17 (hA0.cls0 hw)) ?_
  rintro _ _ ⟨v14, rfl, rfl⟩
  refine L.y rfl (Y.move rfl) ?_
  refine L.y rfl (Y.extract rfl rfl) ?_
  refine L.y rfl (Y.extract rfl rfl) ?_
  refine L.y rfl (Y.extract rfl rfl) ?_
  refine L.alloc rfl ze88 ?_
  intro b18
  refine L.to (D := Cls w [] [.obj b18 (((List.replicate 20 ((⟨0, 0⟩ : TPage) : TPage)).map TPage.row).flatten) 88, .sl v14 99 5 (l13.map TRec.row), .obj b9 ((x6.map TPage.row).flatten) 88, .obj b2 ((a2.map TPage.row).flatten) 88, .obj b1 ((a1.map I).flatten) 76]) (fun _ hw => by first | exact hw | simpa [I, B, SR] using hw) ?_
  refine L.y rfl (Y.assign rfl) ?_
  obtain ⟨_, en19, h⟩ := bind1S h
  obtain ⟨_, en19⟩ := arrN_some en19
  obtain ⟨_, en20, h⟩ := bind1S h
  obtain ⟨_, en20⟩ := arrN_some en20
  refine L.storeArW (i := 0) (row := TPage.row) (k := 2) en19 en20 rfl (fun _ => rfl) (plain_TPage _) sz88 rfl rfl rfl ?_
  refine L.y rfl (Y.assign rfl) ?_
  refine L.nil (E.thenN (W.seqJ (fun gs D => gs = [(0, u0), (4, pt b1 0), (5, pt b2 0), (7, .int .i64 x3), (8, pt b9 0), (9, .int .i64 x7), (10, v14), (11, pt b18 0), (12, .int .i64 x16)] ∧ D = Cls w [] [.obj b18 ((x15.map TPage.row).flatten) 88, .obj b9 ((x6.map TPage.row).flatten) 88, .obj b2 ((a2.map TPage.row).flatten) 88, .obj b1 ((a1.map I).flatten) 76, .sl v14 99 5 (l13.map TRec.row)] ∧ m10_quirlaw_RedoSays_K1 x3 x6 x7 l13 x15 x16 a2 a0 a1 = some r) ?_ ?_))
  ·
   refine W.seq (W.region (L.y rfl (Y.move rfl) ?_))
   obtain ⟨x55, e56, h⟩ := bind1S h
   refine L.y rfl (Y.does en60 rfl (fun w' hw => (w60_redo_Check a0 u0 w' _ e56 (hA0.cls0 hw)).mono (fun _ _ h => h.1))) ?_
   refine L.y rfl (Y.move rfl) ?_
   refine L.ite h rfl (Y.neq rfl rfl) (fun c57 h => ?_) (fun c57 h => ?_)
   ·
    refine L.nil (E.thenN (W.condT rfl ?_))
    refine W.seq (W.region (L.y rfl (Y.assign rfl) ?_))
    refine L.nil (E.thenN (W.ret (E.KSR (E.ret1 rfl rfl (fun w1 hw => ?_)))))
    obtain rfl := Option.some.inj h
    exact ⟨_, _, rfl, ⟨rfl, rfl⟩, hw.sel [] (by decide) rfl⟩
   ·
    refine L.nil (E.thenN (W.condF rfl ?_))
    exact W.skip (E.joinJ ⟨rfl, rfl, h⟩ ⟨rfl, rfl, rfl, rfl, rfl, rfl, rfl, rfl, rfl, trivial⟩ (fun _ hw => hw.sel [0, 2, 3, 4, 1] (by decide) rfl))
  ·
   rintro _ _ ⟨rfl, rfl, h⟩
   rw [m10_quirlaw_RedoSays_K1] at h
   refine W.seqJ (fun gs D => gs = [(0, u0), (4, pt b1 0), (5, pt b2 0), (8, pt b9 0), (9, .int .i64 x7), (10, v14), (11, pt b18 0), (12, .int .i64 x16)] ∧ D = Cls w [] [.obj b18 ((x15.map TPage.row).flatten) 88, .obj b9 ((x6.map TPage.row).flatten) 88, .obj b2 ((a2.map TPage.row).flatten) 88, .obj b1 ((a1.map I).flatten) 76, .sl v14 99 5 (l13.map TRec.row)] ∧ m10_quirlaw_RedoSays_K2 a2 a0 x6 a1 x7 l13 x15 x16 = some r) ?_ ?_
   ·
    refine W.seq (W.region (L.y rfl (Y.move rfl) ?_))
    refine L.ite h rfl (Y.neq rfl rfl) (fun c44 h => ?_) (fun c44 h => ?_)
    ·
     refine L.nil (E.thenN (W.condT rfl ?_))
     refine W.seq (W.region (L.cutJ 8 (fun gs D => ∃ (gb1 : Bool), gs = [(7, .int .i64 x3), (10, v14), (11, pt b18 0), (12, .int .i64 x16), (43, .bool gb1)] ∧ D = Cls w [] [.obj b18 ((x15.map TPage.row).flatten) 88, .sl v14 99 5 (l13.map TRec.row)] ∧ m10_quirlaw_RedoSays_K3 l13 x15 x16 x3 gb1 = some r) ?_ ?_))
     ·
      obtain ⟨_, en50, h⟩ := bind1S h
      obtain ⟨_, en50⟩ := arrN_some en50
      refine L.y rfl (Y.loadArAll (q := 1) (row := TPage.row) (k := 2) ag88 sz88 rfl rfl (fun _ => rfl) (by rw [en50])) ?_
      refine L.y rfl (Y.build (cells := ((List.replicate 20 ((⟨0, 0⟩ : TPage) : TPage)).map TPage.row).flatten.toArray) rfl (by kernel_rfl)) ?_
      obtain ⟨_, en51, h⟩ := bind1S h
      obtain ⟨_, en51⟩ := arrN_some en51
      obtain ⟨_, en52, h⟩ := bind1S h
      obtain ⟨_, en52⟩ := arrN_some en52
      refine L.ite h rfl (Y.eqlAr (row := TPage.row) egA88 ag88 Try.underlying88 isA88 hrA88 shA88 injA88 en51 en52 rfl rfl) (fun c53 h => ?_) (fun c53 h => ?_)
      ·
       refine L.y rfl (Y.move rfl) ?_
       refine L.take rfl (L.y rfl (Y.move rfl) ?_)
       refine L.take rfl (L.y rfl (Y.move rfl) ?_)
       refine L.take rfl (L.ite h rfl (Y.eql rfl rfl) (fun c54 h => ?_) (fun c54 h => ?_))
       ·
        refine L.y rfl (Y.pickT rfl rfl) ?_
        exact L.nil (E.joinJ ⟨true, rfl, rfl, h⟩ ⟨rfl, rfl, rfl, rfl, rfl, trivial⟩ (fun _ hw => hw.sel [0, 4] (by decide) rfl))
       ·
        refine L.y rfl (Y.pickT rfl rfl) ?_
        exact L.nil (E.joinJ ⟨false, rfl, rfl, h⟩ ⟨rfl, rfl, rfl, rfl, rfl, trivial⟩ (fun _ hw => hw.sel [0, 4] (by decide) rfl))
      ·
       refine L.y rfl (Y.move rfl) ?_
       refine L.pass rfl rfl (by nofun) ?_
       refine L.pass rfl rfl (by nofun) ?_
       refine L.pass rfl rfl (by nofun) ?_
       refine L.y rfl (Y.pickF rfl rfl) ?_
       exact L.nil (E.joinJ ⟨false, rfl, rfl, h⟩ ⟨rfl, rfl, rfl, rfl, rfl, trivial⟩ (fun _ hw => hw.sel [0, 4] (by decide) rfl))
     ·
      rintro _ _ ⟨gb1, rfl, rfl, h⟩
      rw [m10_quirlaw_RedoSays_K3] at h
      rcases gb1 with _ | _
      ·
       replace h := iteF h
       refine L.y rfl (Y.move rfl) ?_
       refine L.pass rfl rfl (by nofun) ?_
       refine L.pass rfl rfl (by nofun) ?_
       refine L.pass rfl rfl (by nofun) ?_
       refine L.y rfl (Y.pickF rfl rfl) ?_
       refine L.y rfl (Y.move rfl) ?_
       refine L.pass rfl rfl (by nofun) ?_
       refine L.pass rfl rfl (by nofun) ?_
       refine L.pass rfl rfl (by nofun) ?_
       refine L.y rfl (Y.pickF rfl rfl) ?_
       refine L.y rfl (Y.move rfl) ?_
       refine L.pass rfl rfl (by nofun) ?_
       refine L.pass rfl rfl (by nofun) ?_
       refine L.pass rfl rfl (by nofun) ?_
       refine L.y rfl (Y.pickF rfl rfl) ?_
       refine L.y rfl (Y.assign rfl) ?_
       refine L.nil (E.thenN (W.ret (E.KSR (E.ret1 rfl rfl (fun w1 hw => ?_)))))
       obtain rfl := Option.some.inj h
       exact ⟨_, _, rfl, ⟨rfl, rfl⟩, hw.sel [] (by decide) rfl⟩
      ·
       replace h := iteT h
       refine L.cutJ 10 (fun gs D => ∃ (gb2 : Bool), gs = [(7, .int .i64 x3), (12, .int .i64 x16), (53, .bool gb2)] ∧ D = Cls w [] [] ∧ m10_quirlaw_RedoSays_K4 x16 x3 gb2 = some r) ?_ ?_
       ·
        refine L.y rfl (Y.move rfl) ?_
        refine L.take rfl (L.y rfl (Y.move rfl) ?_)
        refine L.take rfl (L.y rfl (Y.lenM (g := TRec.row) (l := l13) Try.underlying85 rfl (fun w hw => As.at_ (hw.get (i := 1) rfl))) ?_)
        refine L.take rfl (L.ite h rfl (Y.eql rfl rfl) (fun c45 h => ?_) (fun c45 h => ?_))
        ·
         refine L.y rfl (Y.pickT rfl rfl) ?_
         refine L.y rfl (Y.move rfl) ?_
         refine L.take rfl ?_
         obtain ⟨_, en46, h⟩ := bind1S h
         obtain ⟨_, en46⟩ := arrN_some en46
         refine L.y rfl (Y.loadArAll (q := 0) (row := TPage.row) (k := 2) ag88 sz88 rfl rfl (fun _ => rfl) (by rw [en46])) ?_
         refine L.take rfl (L.y rfl (Y.build (cells := ((List.replicate 20 ((⟨0, 0⟩ : TPage) : TPage)).map TPage.row).flatten.toArray) rfl (by kernel_rfl)) ?_)
         refine L.take rfl ?_
         obtain ⟨_, en47, h⟩ := bind1S h
         obtain ⟨_, en47⟩ := arrN_some en47
         obtain ⟨_, en48, h⟩ := bind1S h
         obtain ⟨_, en48⟩ := arrN_some en48
         refine L.ite h rfl (Y.eqlAr (row := TPage.row) egA88 ag88 Try.underlying88 isA88 hrA88 shA88 injA88 en47 en48 rfl rfl) (fun c49 h => ?_) (fun c49 h => ?_)
         ·
          refine L.y rfl (Y.pickT rfl rfl) ?_
          exact L.nil (E.joinJ ⟨true, rfl, rfl, h⟩ ⟨rfl, rfl, rfl, trivial⟩ (fun _ hw => hw.sel [] (by decide) rfl))
         ·
          refine L.y rfl (Y.pickT rfl rfl) ?_
          exact L.nil (E.joinJ ⟨false, rfl, rfl, h⟩ ⟨rfl, rfl, rfl, trivial⟩ (fun _ hw => hw.sel [] (by decide) rfl))
        ·
         refine L.y rfl (Y.pickT rfl rfl) ?_
         refine L.y rfl (Y.move rfl) ?_
         refine L.pass rfl rfl (by nofun) ?_
         refine L.pass rfl rfl (by nofun) ?_
         refine L.pass rfl rfl (by nofun) ?_
         refine L.y rfl (Y.pickF rfl rfl) ?_
         exact L.nil (E.joinJ ⟨false, rfl, rfl, h⟩ ⟨rfl, rfl, rfl, trivial⟩ (fun _ hw => hw.sel [] (by decide) rfl))
       ·
        rintro _ _ ⟨gb2, rfl, rfl, h⟩
        rw [m10_quirlaw_RedoSays_K4] at h
        rcases gb2 with _ | _
        ·
         replace h := iteF h
         refine L.y rfl (Y.move rfl) ?_
         refine L.pass rfl rfl (by nofun) ?_
         refine L.pass rfl rfl (by nofun) ?_
         refine L.pass rfl rfl (by nofun) ?_
         refine L.y rfl (Y.pickF rfl rfl) ?_
         refine L.y rfl (Y.assign rfl) ?_
         refine L.nil (E.thenN (W.ret (E.KSR (E.ret1 rfl rfl (fun w1 hw => ?_)))))
         obtain rfl := Option.some.inj h
         exact ⟨_, _, rfl, ⟨rfl, rfl⟩, hw⟩
        ·
         replace h := iteT h
         refine L.y rfl (Y.move rfl) ?_
         refine L.take rfl (L.y rfl (Y.move rfl) ?_)
         refine L.take rfl (L.y rfl (Y.move rfl) ?_)
         refine L.take rfl (L.y rfl (Y.eql rfl rfl) ?_)
         refine L.y rfl (Y.pickT rfl rfl) ?_
         refine L.y rfl (Y.assign rfl) ?_
         refine L.nil (E.thenN (W.ret (E.KSR (E.ret1 rfl rfl (fun w1 hw => ?_)))))
         obtain rfl := Option.some.inj h
         exact ⟨_, _, rfl, ⟨rfl, rfl⟩, hw⟩
    ·
     refine L.nil (E.thenN (W.condF rfl ?_))
     exact W.skip (E.joinJ ⟨rfl, rfl, h⟩ ⟨rfl, rfl, rfl, rfl, rfl, rfl, rfl, rfl, trivial⟩ (fun _ hw => hw))
   ·
    rintro _ _ ⟨rfl, rfl, h⟩
    rw [m10_quirlaw_RedoSays_K2] at h
    refine W.seq (W.region (L.y rfl (Y.move rfl) ?_))
    obtain ⟨_, en21, h⟩ := bind1S h
    obtain ⟨_, en21⟩ := arrN_some en21
    refine L.y rfl (Y.loadArAll (q := 2) (row := TPage.row) (k := 2) ag88 sz88 rfl rfl (fun _ => rfl) (by rw [en21])) ?_
    obtain ⟨l22, x24, e25, h⟩ := bind2S h
    refine L.does rfl en61 rfl (fun w' hw => w61_quirref_Recover a0 a2 u0 w' _ e25 (hA0.cls0 hw)) ?_
    rintro _ _ ⟨v23, rfl, rfl⟩
    refine L.y rfl (Y.move rfl) ?_
    refine L.y rfl (Y.extract rfl rfl) ?_
    refine L.y rfl (Y.extract rfl rfl) ?_
    refine L.alloc rfl ze88 ?_
    intro b26
    refine L.to (D := Cls w [] [.obj b26 (((List.replicate 20 ((⟨0, 0⟩ : TPage) : TPage)).map TPage.row).flatten) 88, .sl v23 99 5 (l22.map TRec.row), .obj b18 ((x15.map TPage.row).flatten) 88, .obj b9 ((x6.map TPage.row).flatten) 88, .obj b2 ((a2.map TPage.row).flatten) 88, .obj b1 ((a1.map I).flatten) 76, .sl v14 99 5 (l13.map TRec.row)]) (fun _ hw => by first | exact hw | simpa [I, B, SR] using hw) ?_
    refine L.y rfl (Y.assign rfl) ?_
    obtain ⟨_, en27, h⟩ := bind1S h
    obtain ⟨_, en27⟩ := arrN_some en27
    obtain ⟨_, en28, h⟩ := bind1S h
    obtain ⟨_, en28⟩ := arrN_some en28
    refine L.storeArW (i := 0) (row := TPage.row) (k := 2) en27 en28 rfl (fun _ => rfl) (plain_TPage _) sz88 rfl rfl rfl ?_
    refine L.nil (E.thenN (W.seq (W.drawn2 (k := 24) (stC [] [] (Cls w [] [.obj b26 ((x24.map TPage.row).flatten) 88, .sl v23 99 5 (l22.map TRec.row), .obj b18 ((x15.map TPage.row).flatten) 88, .obj b9 ((x6.map TPage.row).flatten) 88, .obj b2 ((a2.map TPage.row).flatten) 88, .obj b1 ((a1.map I).flatten) 76, .sl v14 99 5 (l13.map TRec.row)])) rfl mixed (fun _ hw => hw.drew) (Sc.atD (fun _ hw => hw)) ?_)))
    obtain ⟨_, en29, h⟩ := bind1S h
    obtain ⟨_, en29⟩ := arrN_some en29
    refine V2.y (i := 0) (Nx2.of (Z := Cls w [] [.obj b26 ((x24.map TPage.row).flatten) 88, .sl v23 99 5 (l22.map TRec.row), .obj b18 ((x15.map TPage.row).flatten) 88, .obj b9 ((x6.map TPage.row).flatten) 88, .obj b2 ((a2.map TPage.row).flatten) 88, .obj b1 ((a1.map I).flatten) 76, .sl v14 99 5 (l13.map TRec.row)]) [] (by kernel_rfl) rfl (Zc.fin (fun _ hw => hw))) rfl rfl rfl (Y.loadArAll (q := 3) (row := TPage.row) (k := 2) ag88 sz88 rfl rfl (fun _ => rfl) (by rw [en29])) ?_
    refine V2.y (i := 1) (Nx2.of (Z := Cls w [] [.obj b26 ((x24.map TPage.row).flatten) 88, .sl v23 99 5 (l22.map TRec.row), .obj b18 ((x15.map TPage.row).flatten) 88, .obj b9 ((x6.map TPage.row).flatten) 88, .obj b2 ((a2.map TPage.row).flatten) 88, .obj b1 ((a1.map I).flatten) 76, .sl v14 99 5 (l13.map TRec.row)]) [] (by kernel_rfl) rfl (Zc.fin (fun _ hw => hw))) rfl rfl rfl (Y.move rfl) ?_
    obtain ⟨_, en30, h⟩ := bind1S h
    obtain ⟨_, en30⟩ := arrN_some en30
    refine V2.y (i := 2) (Nx2.of (Z := Cls w [] [.obj b26 ((x24.map TPage.row).flatten) 88, .sl v23 99 5 (l22.map TRec.row), .obj b18 ((x15.map TPage.row).flatten) 88, .obj b9 ((x6.map TPage.row).flatten) 88, .obj b2 ((a2.map TPage.row).flatten) 88, .obj b1 ((a1.map I).flatten) 76, .sl v14 99 5 (l13.map TRec.row)]) [] (by kernel_rfl) rfl (Zc.fin (fun _ hw => hw))) rfl rfl rfl (Y.loadArAll (q := 5) (row := I) (k := 1) ag76 sz76 rfl rfl (fun _ => rfl) (by rw [en30])) ?_
    refine V2.eff (i := 3) (by kernel_rfl) rfl ?_
    obtain ⟨x31, e32, h⟩ := bind1S h
    refine L.y rfl (Y.does en62 rfl (fun w' hw => (w62_quirref_Pages a0 a1 u0 w' _ e32 (hA0.cls0 hw)).mono (fun _ _ h => h.1))) ?_
    refine L.nil (E.toV2 (stC [] [] (Cls w [] [.obj b26 ((x24.map TPage.row).flatten) 88, .sl v23 99 5 (l22.map TRec.row), .obj b18 ((x15.map TPage.row).flatten) 88, .obj b9 ((x6.map TPage.row).flatten) 88, .obj b2 ((a2.map TPage.row).flatten) 88, .obj b1 ((a1.map I).flatten) 76, .sl v14 99 5 (l13.map TRec.row)])) 3 (by kernel_rfl) (Sc.stayD (fun _ hw => hw)) (Sc.atD (fun _ hw => hw)) ?_)
    obtain ⟨_, en33, h⟩ := bind1S h
    obtain ⟨_, en33⟩ := arrN_some en33
    obtain ⟨_, en34, h⟩ := bind1S h
    obtain ⟨_, en34⟩ := arrN_some en34
    refine V2.ite (i := 4) h (Nx2.of (Z := Cls w [] [.obj b26 ((x24.map TPage.row).flatten) 88, .sl v23 99 5 (l22.map TRec.row), .obj b18 ((x15.map TPage.row).flatten) 88, .obj b9 ((x6.map TPage.row).flatten) 88, .obj b2 ((a2.map TPage.row).flatten) 88, .obj b1 ((a1.map I).flatten) 76, .sl v14 99 5 (l13.map TRec.row)]) [] (by kernel_rfl) rfl (Zc.fin (fun _ hw => hw))) rfl rfl rfl (Y.eqlAr (row := TPage.row) egA88 ag88 Try.underlying88 isA88 hrA88 shA88 injA88 en33 en34 rfl rfl) (fun c35 h => ?_) (fun c35 h => ?_)
    ·
     refine V2.y (i := 5) (Nx2.of (Z := Cls w [] [.obj b26 ((x24.map TPage.row).flatten) 88, .sl v23 99 5 (l22.map TRec.row), .obj b18 ((x15.map TPage.row).flatten) 88, .obj b9 ((x6.map TPage.row).flatten) 88, .obj b2 ((a2.map TPage.row).flatten) 88, .obj b1 ((a1.map I).flatten) 76, .sl v14 99 5 (l13.map TRec.row)]) [] (by kernel_rfl) rfl (Zc.fin (fun _ hw => hw))) rfl rfl rfl (Y.move rfl) ?_
     refine V2.y (i := 6) (Nx2.of (Z := Cls w [] [.obj b26 ((x24.map TPage.row).flatten) 88, .sl v23 99 5 (l22.map TRec.row), .obj b18 ((x15.map TPage.row).flatten) 88, .obj b9 ((x6.map TPage.row).flatten) 88, .obj b2 ((a2.map TPage.row).flatten) 88, .obj b1 ((a1.map I).flatten) 76, .sl v14 99 5 (l13.map TRec.row)]) [] (by kernel_rfl) rfl (Zc.fin (fun _ hw => hw))) rfl rfl rfl (Y.move rfl) ?_
     refine V2.ite (i := 7) h (Nx2.of (Z := Cls w [] [.obj b26 ((x24.map TPage.row).flatten) 88, .sl v23 99 5 (l22.map TRec.row), .obj b18 ((x15.map TPage.row).flatten) 88, .obj b9 ((x6.map TPage.row).flatten) 88, .obj b2 ((a2.map TPage.row).flatten) 88, .obj b1 ((a1.map I).flatten) 76, .sl v14 99 5 (l13.map TRec.row)]) [] (by kernel_rfl) rfl (Zc.fin (fun _ hw => hw))) rfl rfl rfl (Y.eql rfl rfl) (fun c36 h => ?_) (fun c36 h => ?_)
     ·
      refine V2.y (i := 8) (Nx2.of (Z := Cls w [] [.obj b26 ((x24.map TPage.row).flatten) 88, .sl v23 99 5 (l22.map TRec.row), .obj b18 ((x15.map TPage.row).flatten) 88, .obj b9 ((x6.map TPage.row).flatten) 88, .obj b2 ((a2.map TPage.row).flatten) 88, .obj b1 ((a1.map I).flatten) 76, .sl v14 99 5 (l13.map TRec.row)]) [] (by kernel_rfl) rfl (Zc.fin (fun _ hw => hw))) rfl rfl rfl (Y.pickT rfl rfl) ?_
      refine V2.y (i := 9) (Nx2.of (Z := Cls w [] [.obj b26 ((x24.map TPage.row).flatten) 88, .sl v23 99 5 (l22.map TRec.row), .obj b18 ((x15.map TPage.row).flatten) 88, .obj b9 ((x6.map TPage.row).flatten) 88, .obj b2 ((a2.map TPage.row).flatten) 88, .obj b1 ((a1.map I).flatten) 76, .sl v14 99 5 (l13.map TRec.row)]) [] (by kernel_rfl) rfl (Zc.fin (fun _ hw => hw))) rfl rfl rfl (Y.move rfl) ?_
      refine V2.y (i := 10) (Nx2.of (Z := Cls w [] [.obj b26 ((x24.map TPage.row).flatten) 88, .sl v23 99 5 (l22.map TRec.row), .obj b18 ((x15.map TPage.row).flatten) 88, .obj b9 ((x6.map TPage.row).flatten) 88, .obj b2 ((a2.map TPage.row).flatten) 88, .obj b1 ((a1.map I).flatten) 76, .sl v14 99 5 (l13.map TRec.row)]) [] (by kernel_rfl) rfl (Zc.fin (fun _ hw => hw))) rfl rfl rfl (Y.move rfl) ?_
      refine V2.y (i := 11) (Nx2.of (Z := Cls w [] [.obj b26 ((x24.map TPage.row).flatten) 88, .sl v23 99 5 (l22.map TRec.row), .obj b18 ((x15.map TPage.row).flatten) 88, .obj b9 ((x6.map TPage.row).flatten) 88, .obj b2 ((a2.map TPage.row).flatten) 88, .obj b1 ((a1.map I).flatten) 76, .sl v14 99 5 (l13.map TRec.row)]) [] (by kernel_rfl) rfl (Zc.fin (fun _ hw => hw))) rfl rfl rfl (Y.move rfl) ?_
      refine V2.eff (i := 12) (by kernel_rfl) rfl ?_
      refine L.take rfl ?_
      obtain ⟨b37, e38, h⟩ := bind1S h
      refine L.y rfl (Y.does en63 rfl (fun w' hw => (w63_api_Rec l13 l22 v14 v23 w' _ e38 (As.at_ (hw.get (i := 6) rfl)) (As.at_ (hw.get (i := 1) rfl))).mono (fun _ _ h => h.1))) ?_
      rcases b37 with _ | _
      ·
       replace h := iteF h
       refine L.nil (E.toV2 (stC [] [] (Cls w [] [.obj b26 ((x24.map TPage.row).flatten) 88, .sl v23 99 5 (l22.map TRec.row), .obj b18 ((x15.map TPage.row).flatten) 88, .obj b9 ((x6.map TPage.row).flatten) 88, .obj b2 ((a2.map TPage.row).flatten) 88, .obj b1 ((a1.map I).flatten) 76, .sl v14 99 5 (l13.map TRec.row)])) 12 (by kernel_rfl) (Sc.stayD (fun _ hw => hw)) (Sc.atD (fun _ hw => hw)) ?_)
       refine V2.y (i := 13) (Nx2.of (Z := Cls w [] [.obj b26 ((x24.map TPage.row).flatten) 88, .sl v23 99 5 (l22.map TRec.row), .obj b18 ((x15.map TPage.row).flatten) 88, .obj b9 ((x6.map TPage.row).flatten) 88, .obj b2 ((a2.map TPage.row).flatten) 88, .obj b1 ((a1.map I).flatten) 76, .sl v14 99 5 (l13.map TRec.row)]) [] (by kernel_rfl) rfl (Zc.fin (fun _ hw => hw))) rfl rfl rfl (Y.pickT rfl rfl) ?_
       refine V2.y (i := 14) (Nx2.of (Z := Cls w [] [.obj b26 ((x24.map TPage.row).flatten) 88, .sl v23 99 5 (l22.map TRec.row), .obj b18 ((x15.map TPage.row).flatten) 88, .obj b9 ((x6.map TPage.row).flatten) 88, .obj b2 ((a2.map TPage.row).flatten) 88, .obj b1 ((a1.map I).flatten) 76, .sl v14 99 5 (l13.map TRec.row)]) [] (by kernel_rfl) rfl (Zc.fin (fun _ hw => hw))) rfl rfl rfl (Y.move rfl) ?_
       refine V2.pass (i := 15) (Nx2.of (Z := Cls w [] [.obj b26 ((x24.map TPage.row).flatten) 88, .sl v23 99 5 (l22.map TRec.row), .obj b18 ((x15.map TPage.row).flatten) 88, .obj b9 ((x6.map TPage.row).flatten) 88, .obj b2 ((a2.map TPage.row).flatten) 88, .obj b1 ((a1.map I).flatten) 76, .sl v14 99 5 (l13.map TRec.row)]) [] (by kernel_rfl) rfl (Zc.fin (fun _ hw => hw))) rfl rfl ?_
       refine V2.pass (i := 16) (Nx2.of (Z := Cls w [] [.obj b26 ((x24.map TPage.row).flatten) 88, .sl v23 99 5 (l22.map TRec.row), .obj b18 ((x15.map TPage.row).flatten) 88, .obj b9 ((x6.map TPage.row).flatten) 88, .obj b2 ((a2.map TPage.row).flatten) 88, .obj b1 ((a1.map I).flatten) 76, .sl v14 99 5 (l13.map TRec.row)]) [] (by kernel_rfl) rfl (Zc.fin (fun _ hw => hw))) rfl rfl ?_
       refine V2.pass (i := 17) (Nx2.of (Z := Cls w [] [.obj b26 ((x24.map TPage.row).flatten) 88, .sl v23 99 5 (l22.map TRec.row), .obj b18 ((x15.map TPage.row).flatten) 88, .obj b9 ((x6.map TPage.row).flatten) 88, .obj b2 ((a2.map TPage.row).flatten) 88, .obj b1 ((a1.map I).flatten) 76, .sl v14 99 5 (l13.map TRec.row)]) [] (by kernel_rfl) rfl (Zc.fin (fun _ hw => hw))) rfl rfl ?_
       refine V2.y (i := 18) (Nx2.of (Z := Cls w [] [.obj b26 ((x24.map TPage.row).flatten) 88, .sl v23 99 5 (l22.map TRec.row), .obj b18 ((x15.map TPage.row).flatten) 88, .obj b9 ((x6.map TPage.row).flatten) 88, .obj b2 ((a2.map TPage.row).flatten) 88, .obj b1 ((a1.map I).flatten) 76, .sl v14 99 5 (l13.map TRec.row)]) [] (by kernel_rfl) rfl (Zc.fin (fun _ hw => hw))) rfl rfl rfl (Y.pickF rfl rfl) ?_
       refine V2.y (i := 19) (Nx2.of (Z := Cls w [] [.obj b26 ((x24.map TPage.row).flatten) 88, .sl v23 99 5 (l22.map TRec.row), .obj b18 ((x15.map TPage.row).flatten) 88, .obj b9 ((x6.map TPage.row).flatten) 88, .obj b2 ((a2.map TPage.row).flatten) 88, .obj b1 ((a1.map I).flatten) 76, .sl v14 99 5 (l13.map TRec.row)]) [] (by kernel_rfl) rfl (Zc.fin (fun _ hw => hw))) rfl rfl rfl (Y.move rfl) ?_
       refine V2.pass (i := 20) (Nx2.of (Z := Cls w [] [.obj b26 ((x24.map TPage.row).flatten) 88, .sl v23 99 5 (l22.map TRec.row), .obj b18 ((x15.map TPage.row).flatten) 88, .obj b9 ((x6.map TPage.row).flatten) 88, .obj b2 ((a2.map TPage.row).flatten) 88, .obj b1 ((a1.map I).flatten) 76, .sl v14 99 5 (l13.map TRec.row)]) [] (by kernel_rfl) rfl (Zc.fin (fun _ hw => hw))) rfl rfl ?_
       refine V2.pass (i := 21) (Nx2.of (Z := Cls w [] [.obj b26 ((x24.map TPage.row).flatten) 88, .sl v23 99 5 (l22.map TRec.row), .obj b18 ((x15.map TPage.row).flatten) 88, .obj b9 ((x6.map TPage.row).flatten) 88, .obj b2 ((a2.map TPage.row).flatten) 88, .obj b1 ((a1.map I).flatten) 76, .sl v14 99 5 (l13.map TRec.row)]) [] (by kernel_rfl) rfl (Zc.fin (fun _ hw => hw))) rfl rfl ?_
       refine V2.y (i := 22) (Nx2.of (Z := Cls w [] [.obj b26 ((x24.map TPage.row).flatten) 88, .sl v23 99 5 (l22.map TRec.row), .obj b18 ((x15.map TPage.row).flatten) 88, .obj b9 ((x6.map TPage.row).flatten) 88, .obj b2 ((a2.map TPage.row).flatten) 88, .obj b1 ((a1.map I).flatten) 76, .sl v14 99 5 (l13.map TRec.row)]) [] (by kernel_rfl) rfl (Zc.fin (fun _ hw => hw))) rfl rfl rfl (Y.pickF rfl rfl) ?_
       refine V2.y (i := 23) (Nx2.of (Z := Cls w [] [.obj b26 ((x24.map TPage.row).flatten) 88, .sl v23 99 5 (l22.map TRec.row), .obj b18 ((x15.map TPage.row).flatten) 88, .obj b9 ((x6.map TPage.row).flatten) 88, .obj b2 ((a2.map TPage.row).flatten) 88, .obj b1 ((a1.map I).flatten) 76, .sl v14 99 5 (l13.map TRec.row)]) [] (by kernel_rfl) rfl (Zc.fin (fun _ hw => hw))) rfl rfl rfl (Y.assign rfl) ?_
       refine V2.done (by kernel_rfl) ?_
       refine E.thenN (W.ret (E.ret1 rfl rfl (fun w1 hw => ?_)))
       obtain rfl := Option.some.inj h
       exact ⟨_, _, rfl, ⟨rfl, rfl⟩, hw.sel [] (by decide) rfl⟩
      ·
       replace h := iteT h
       refine L.nil (E.toV2 (stC [] [] (Cls w [] [.obj b26 ((x24.map TPage.row).flatten) 88, .sl v23 99 5 (l22.map TRec.row), .obj b18 ((x15.map TPage.row).flatten) 88, .obj b9 ((x6.map TPage.row).flatten) 88, .obj b2 ((a2.map TPage.row).flatten) 88, .obj b1 ((a1.map I).flatten) 76, .sl v14 99 5 (l13.map TRec.row)])) 12 (by kernel_rfl) (Sc.stayD (fun _ hw => hw)) (Sc.atD (fun _ hw => hw)) ?_)
       refine V2.y (i := 13) (Nx2.of (Z := Cls w [] [.obj b26 ((x24.map TPage.row).flatten) 88, .sl v23 99 5 (l22.map TRec.row), .obj b18 ((x15.map TPage.row).flatten) 88, .obj b9 ((x6.map TPage.row).flatten) 88, .obj b2 ((a2.map TPage.row).flatten) 88, .obj b1 ((a1.map I).flatten) 76, .sl v14 99 5 (l13.map TRec.row)]) [] (by kernel_rfl) rfl (Zc.fin (fun _ hw => hw))) rfl rfl rfl (Y.pickT rfl rfl) ?_
       refine V2.y (i := 14) (Nx2.of (Z := Cls w [] [.obj b26 ((x24.map TPage.row).flatten) 88, .sl v23 99 5 (l22.map TRec.row), .obj b18 ((x15.map TPage.row).flatten) 88, .obj b9 ((x6.map TPage.row).flatten) 88, .obj b2 ((a2.map TPage.row).flatten) 88, .obj b1 ((a1.map I).flatten) 76, .sl v14 99 5 (l13.map TRec.row)]) [] (by kernel_rfl) rfl (Zc.fin (fun _ hw => hw))) rfl rfl rfl (Y.move rfl) ?_
       obtain ⟨_, en39, h⟩ := bind1S h
       obtain ⟨_, en39⟩ := arrN_some en39
       refine V2.y (i := 15) (Nx2.of (Z := Cls w [] [.obj b26 ((x24.map TPage.row).flatten) 88, .sl v23 99 5 (l22.map TRec.row), .obj b18 ((x15.map TPage.row).flatten) 88, .obj b9 ((x6.map TPage.row).flatten) 88, .obj b2 ((a2.map TPage.row).flatten) 88, .obj b1 ((a1.map I).flatten) 76, .sl v14 99 5 (l13.map TRec.row)]) [] (by kernel_rfl) rfl (Zc.fin (fun _ hw => hw))) rfl rfl rfl (Y.loadArAll (q := 2) (row := TPage.row) (k := 2) ag88 sz88 rfl rfl (fun _ => rfl) (by rw [en39])) ?_
       obtain ⟨_, en40, h⟩ := bind1S h
       obtain ⟨_, en40⟩ := arrN_some en40
       refine V2.y (i := 16) (Nx2.of (Z := Cls w [] [.obj b26 ((x24.map TPage.row).flatten) 88, .sl v23 99 5 (l22.map TRec.row), .obj b18 ((x15.map TPage.row).flatten) 88, .obj b9 ((x6.map TPage.row).flatten) 88, .obj b2 ((a2.map TPage.row).flatten) 88, .obj b1 ((a1.map I).flatten) 76, .sl v14 99 5 (l13.map TRec.row)]) [] (by kernel_rfl) rfl (Zc.fin (fun _ hw => hw))) rfl rfl rfl (Y.loadArAll (q := 0) (row := TPage.row) (k := 2) ag88 sz88 rfl rfl (fun _ => rfl) (by rw [en40])) ?_
       obtain ⟨_, en41, h⟩ := bind1S h
       obtain ⟨_, en41⟩ := arrN_some en41
       obtain ⟨_, en42, h⟩ := bind1S h
       obtain ⟨_, en42⟩ := arrN_some en42
       refine V2.ite (i := 17) h (Nx2.of (Z := Cls w [] [.obj b26 ((x24.map TPage.row).flatten) 88, .sl v23 99 5 (l22.map TRec.row), .obj b18 ((x15.map TPage.row).flatten) 88, .obj b9 ((x6.map TPage.row).flatten) 88, .obj b2 ((a2.map TPage.row).flatten) 88, .obj b1 ((a1.map I).flatten) 76, .sl v14 99 5 (l13.map TRec.row)]) [] (by kernel_rfl) rfl (Zc.fin (fun _ hw => hw))) rfl rfl rfl (Y.eqlAr (row := TPage.row) egA88 ag88 Try.underlying88 isA88 hrA88 shA88 injA88 en41 en42 rfl rfl) (fun c43 h => ?_) (fun c43 h => ?_)
       ·
        refine V2.y (i := 18) (Nx2.of (Z := Cls w [] [.obj b26 ((x24.map TPage.row).flatten) 88, .sl v23 99 5 (l22.map TRec.row), .obj b18 ((x15.map TPage.row).flatten) 88, .obj b9 ((x6.map TPage.row).flatten) 88, .obj b2 ((a2.map TPage.row).flatten) 88, .obj b1 ((a1.map I).flatten) 76, .sl v14 99 5 (l13.map TRec.row)]) [] (by kernel_rfl) rfl (Zc.fin (fun _ hw => hw))) rfl rfl rfl (Y.pickT rfl rfl) ?_
        refine V2.y (i := 19) (Nx2.of (Z := Cls w [] [.obj b26 ((x24.map TPage.row).flatten) 88, .sl v23 99 5 (l22.map TRec.row), .obj b18 ((x15.map TPage.row).flatten) 88, .obj b9 ((x6.map TPage.row).flatten) 88, .obj b2 ((a2.map TPage.row).flatten) 88, .obj b1 ((a1.map I).flatten) 76, .sl v14 99 5 (l13.map TRec.row)]) [] (by kernel_rfl) rfl (Zc.fin (fun _ hw => hw))) rfl rfl rfl (Y.move rfl) ?_
        refine V2.y (i := 20) (Nx2.of (Z := Cls w [] [.obj b26 ((x24.map TPage.row).flatten) 88, .sl v23 99 5 (l22.map TRec.row), .obj b18 ((x15.map TPage.row).flatten) 88, .obj b9 ((x6.map TPage.row).flatten) 88, .obj b2 ((a2.map TPage.row).flatten) 88, .obj b1 ((a1.map I).flatten) 76, .sl v14 99 5 (l13.map TRec.row)]) [] (by kernel_rfl) rfl (Zc.fin (fun _ hw => hw))) rfl rfl rfl (Y.move rfl) ?_
        refine V2.y (i := 21) (Nx2.of (Z := Cls w [] [.obj b26 ((x24.map TPage.row).flatten) 88, .sl v23 99 5 (l22.map TRec.row), .obj b18 ((x15.map TPage.row).flatten) 88, .obj b9 ((x6.map TPage.row).flatten) 88, .obj b2 ((a2.map TPage.row).flatten) 88, .obj b1 ((a1.map I).flatten) 76, .sl v14 99 5 (l13.map TRec.row)]) [] (by kernel_rfl) rfl (Zc.fin (fun _ hw => hw))) rfl rfl rfl (Y.eql rfl rfl) ?_
        refine V2.y (i := 22) (Nx2.of (Z := Cls w [] [.obj b26 ((x24.map TPage.row).flatten) 88, .sl v23 99 5 (l22.map TRec.row), .obj b18 ((x15.map TPage.row).flatten) 88, .obj b9 ((x6.map TPage.row).flatten) 88, .obj b2 ((a2.map TPage.row).flatten) 88, .obj b1 ((a1.map I).flatten) 76, .sl v14 99 5 (l13.map TRec.row)]) [] (by kernel_rfl) rfl (Zc.fin (fun _ hw => hw))) rfl rfl rfl (Y.pickT rfl rfl) ?_
        refine V2.y (i := 23) (Nx2.of (Z := Cls w [] [.obj b26 ((x24.map TPage.row).flatten) 88, .sl v23 99 5 (l22.map TRec.row), .obj b18 ((x15.map TPage.row).flatten) 88, .obj b9 ((x6.map TPage.row).flatten) 88, .obj b2 ((a2.map TPage.row).flatten) 88, .obj b1 ((a1.map I).flatten) 76, .sl v14 99 5 (l13.map TRec.row)]) [] (by kernel_rfl) rfl (Zc.fin (fun _ hw => hw))) rfl rfl rfl (Y.assign rfl) ?_
        refine V2.done (by kernel_rfl) ?_
        refine E.thenN (W.ret (E.ret1 rfl rfl (fun w1 hw => ?_)))
        obtain rfl := Option.some.inj h
        exact ⟨_, _, rfl, ⟨rfl, rfl⟩, hw.sel [] (by decide) rfl⟩
       ·
        refine V2.y (i := 18) (Nx2.of (Z := Cls w [] [.obj b26 ((x24.map TPage.row).flatten) 88, .sl v23 99 5 (l22.map TRec.row), .obj b18 ((x15.map TPage.row).flatten) 88, .obj b9 ((x6.map TPage.row).flatten) 88, .obj b2 ((a2.map TPage.row).flatten) 88, .obj b1 ((a1.map I).flatten) 76, .sl v14 99 5 (l13.map TRec.row)]) [] (by kernel_rfl) rfl (Zc.fin (fun _ hw => hw))) rfl rfl rfl (Y.pickT rfl rfl) ?_
        refine V2.y (i := 19) (Nx2.of (Z := Cls w [] [.obj b26 ((x24.map TPage.row).flatten) 88, .sl v23 99 5 (l22.map TRec.row), .obj b18 ((x15.map TPage.row).flatten) 88, .obj b9 ((x6.map TPage.row).flatten) 88, .obj b2 ((a2.map TPage.row).flatten) 88, .obj b1 ((a1.map I).flatten) 76, .sl v14 99 5 (l13.map TRec.row)]) [] (by kernel_rfl) rfl (Zc.fin (fun _ hw => hw))) rfl rfl rfl (Y.move rfl) ?_
        refine V2.pass (i := 20) (Nx2.of (Z := Cls w [] [.obj b26 ((x24.map TPage.row).flatten) 88, .sl v23 99 5 (l22.map TRec.row), .obj b18 ((x15.map TPage.row).flatten) 88, .obj b9 ((x6.map TPage.row).flatten) 88, .obj b2 ((a2.map TPage.row).flatten) 88, .obj b1 ((a1.map I).flatten) 76, .sl v14 99 5 (l13.map TRec.row)]) [] (by kernel_rfl) rfl (Zc.fin (fun _ hw => hw))) rfl rfl ?_
        refine V2.pass (i := 21) (Nx2.of (Z := Cls w [] [.obj b26 ((x24.map TPage.row).flatten) 88, .sl v23 99 5 (l22.map TRec.row), .obj b18 ((x15.map TPage.row).flatten) 88, .obj b9 ((x6.map TPage.row).flatten) 88, .obj b2 ((a2.map TPage.row).flatten) 88, .obj b1 ((a1.map I).flatten) 76, .sl v14 99 5 (l13.map TRec.row)]) [] (by kernel_rfl) rfl (Zc.fin (fun _ hw => hw))) rfl rfl ?_
        refine V2.y (i := 22) (Nx2.of (Z := Cls w [] [.obj b26 ((x24.map TPage.row).flatten) 88, .sl v23 99 5 (l22.map TRec.row), .obj b18 ((x15.map TPage.row).flatten) 88, .obj b9 ((x6.map TPage.row).flatten) 88, .obj b2 ((a2.map TPage.row).flatten) 88, .obj b1 ((a1.map I).flatten) 76, .sl v14 99 5 (l13.map TRec.row)]) [] (by kernel_rfl) rfl (Zc.fin (fun _ hw => hw))) rfl rfl rfl (Y.pickF rfl rfl) ?_
        refine V2.y (i := 23) (Nx2.of (Z := Cls w [] [.obj b26 ((x24.map TPage.row).flatten) 88, .sl v23 99 5 (l22.map TRec.row), .obj b18 ((x15.map TPage.row).flatten) 88, .obj b9 ((x6.map TPage.row).flatten) 88, .obj b2 ((a2.map TPage.row).flatten) 88, .obj b1 ((a1.map I).flatten) 76, .sl v14 99 5 (l13.map TRec.row)]) [] (by kernel_rfl) rfl (Zc.fin (fun _ hw => hw))) rfl rfl rfl (Y.assign rfl) ?_
        refine V2.done (by kernel_rfl) ?_
        refine E.thenN (W.ret (E.ret1 rfl rfl (fun w1 hw => ?_)))
        obtain rfl := Option.some.inj h
        exact ⟨_, _, rfl, ⟨rfl, rfl⟩, hw.sel [] (by decide) rfl⟩
     ·
      refine V2.y (i := 8) (Nx2.of (Z := Cls w [] [.obj b26 ((x24.map TPage.row).flatten) 88, .sl v23 99 5 (l22.map TRec.row), .obj b18 ((x15.map TPage.row).flatten) 88, .obj b9 ((x6.map TPage.row).flatten) 88, .obj b2 ((a2.map TPage.row).flatten) 88, .obj b1 ((a1.map I).flatten) 76, .sl v14 99 5 (l13.map TRec.row)]) [] (by kernel_rfl) rfl (Zc.fin (fun _ hw => hw))) rfl rfl rfl (Y.pickT rfl rfl) ?_
      refine V2.y (i := 9) (Nx2.of (Z := Cls w [] [.obj b26 ((x24.map TPage.row).flatten) 88, .sl v23 99 5 (l22.map TRec.row), .obj b18 ((x15.map TPage.row).flatten) 88, .obj b9 ((x6.map TPage.row).flatten) 88, .obj b2 ((a2.map TPage.row).flatten) 88, .obj b1 ((a1.map I).flatten) 76, .sl v14 99 5 (l13.map TRec.row)]) [] (by kernel_rfl) rfl (Zc.fin (fun _ hw => hw))) rfl rfl rfl (Y.move rfl) ?_
      refine V2.pass (i := 10) (Nx2.of (Z := Cls w [] [.obj b26 ((x24.map TPage.row).flatten) 88, .sl v23 99 5 (l22.map TRec.row), .obj b18 ((x15.map TPage.row).flatten) 88, .obj b9 ((x6.map TPage.row).flatten) 88, .obj b2 ((a2.map TPage.row).flatten) 88, .obj b1 ((a1.map I).flatten) 76, .sl v14 99 5 (l13.map TRec.row)]) [] (by kernel_rfl) rfl (Zc.fin (fun _ hw => hw))) rfl rfl ?_
      refine V2.pass (i := 11) (Nx2.of (Z := Cls w [] [.obj b26 ((x24.map TPage.row).flatten) 88, .sl v23 99 5 (l22.map TRec.row), .obj b18 ((x15.map TPage.row).flatten) 88, .obj b9 ((x6.map TPage.row).flatten) 88, .obj b2 ((a2.map TPage.row).flatten) 88, .obj b1 ((a1.map I).flatten) 76, .sl v14 99 5 (l13.map TRec.row)]) [] (by kernel_rfl) rfl (Zc.fin (fun _ hw => hw))) rfl rfl ?_
      refine V2.pass (i := 12) (Nx2.of (Z := Cls w [] [.obj b26 ((x24.map TPage.row).flatten) 88, .sl v23 99 5 (l22.map TRec.row), .obj b18 ((x15.map TPage.row).flatten) 88, .obj b9 ((x6.map TPage.row).flatten) 88, .obj b2 ((a2.map TPage.row).flatten) 88, .obj b1 ((a1.map I).flatten) 76, .sl v14 99 5 (l13.map TRec.row)]) [] (by kernel_rfl) rfl (Zc.fin (fun _ hw => hw))) rfl rfl ?_
      refine V2.y (i := 13) (Nx2.of (Z := Cls w [] [.obj b26 ((x24.map TPage.row).flatten) 88, .sl v23 99 5 (l22.map TRec.row), .obj b18 ((x15.map TPage.row).flatten) 88, .obj b9 ((x6.map TPage.row).flatten) 88, .obj b2 ((a2.map TPage.row).flatten) 88, .obj b1 ((a1.map I).flatten) 76, .sl v14 99 5 (l13.map TRec.row)]) [] (by kernel_rfl) rfl (Zc.fin (fun _ hw => hw))) rfl rfl rfl (Y.pickF rfl rfl) ?_
      refine V2.y (i := 14) (Nx2.of (Z := Cls w [] [.obj b26 ((x24.map TPage.row).flatten) 88, .sl v23 99 5 (l22.map TRec.row), .obj b18 ((x15.map TPage.row).flatten) 88, .obj b9 ((x6.map TPage.row).flatten) 88, .obj b2 ((a2.map TPage.row).flatten) 88, .obj b1 ((a1.map I).flatten) 76, .sl v14 99 5 (l13.map TRec.row)]) [] (by kernel_rfl) rfl (Zc.fin (fun _ hw => hw))) rfl rfl rfl (Y.move rfl) ?_
      refine V2.pass (i := 15) (Nx2.of (Z := Cls w [] [.obj b26 ((x24.map TPage.row).flatten) 88, .sl v23 99 5 (l22.map TRec.row), .obj b18 ((x15.map TPage.row).flatten) 88, .obj b9 ((x6.map TPage.row).flatten) 88, .obj b2 ((a2.map TPage.row).flatten) 88, .obj b1 ((a1.map I).flatten) 76, .sl v14 99 5 (l13.map TRec.row)]) [] (by kernel_rfl) rfl (Zc.fin (fun _ hw => hw))) rfl rfl ?_
      refine V2.pass (i := 16) (Nx2.of (Z := Cls w [] [.obj b26 ((x24.map TPage.row).flatten) 88, .sl v23 99 5 (l22.map TRec.row), .obj b18 ((x15.map TPage.row).flatten) 88, .obj b9 ((x6.map TPage.row).flatten) 88, .obj b2 ((a2.map TPage.row).flatten) 88, .obj b1 ((a1.map I).flatten) 76, .sl v14 99 5 (l13.map TRec.row)]) [] (by kernel_rfl) rfl (Zc.fin (fun _ hw => hw))) rfl rfl ?_
      refine V2.pass (i := 17) (Nx2.of (Z := Cls w [] [.obj b26 ((x24.map TPage.row).flatten) 88, .sl v23 99 5 (l22.map TRec.row), .obj b18 ((x15.map TPage.row).flatten) 88, .obj b9 ((x6.map TPage.row).flatten) 88, .obj b2 ((a2.map TPage.row).flatten) 88, .obj b1 ((a1.map I).flatten) 76, .sl v14 99 5 (l13.map TRec.row)]) [] (by kernel_rfl) rfl (Zc.fin (fun _ hw => hw))) rfl rfl ?_
      refine V2.y (i := 18) (Nx2.of (Z := Cls w [] [.obj b26 ((x24.map TPage.row).flatten) 88, .sl v23 99 5 (l22.map TRec.row), .obj b18 ((x15.map TPage.row).flatten) 88, .obj b9 ((x6.map TPage.row).flatten) 88, .obj b2 ((a2.map TPage.row).flatten) 88, .obj b1 ((a1.map I).flatten) 76, .sl v14 99 5 (l13.map TRec.row)]) [] (by kernel_rfl) rfl (Zc.fin (fun _ hw => hw))) rfl rfl rfl (Y.pickF rfl rfl) ?_
      refine V2.y (i := 19) (Nx2.of (Z := Cls w [] [.obj b26 ((x24.map TPage.row).flatten) 88, .sl v23 99 5 (l22.map TRec.row), .obj b18 ((x15.map TPage.row).flatten) 88, .obj b9 ((x6.map TPage.row).flatten) 88, .obj b2 ((a2.map TPage.row).flatten) 88, .obj b1 ((a1.map I).flatten) 76, .sl v14 99 5 (l13.map TRec.row)]) [] (by kernel_rfl) rfl (Zc.fin (fun _ hw => hw))) rfl rfl rfl (Y.move rfl) ?_
      refine V2.pass (i := 20) (Nx2.of (Z := Cls w [] [.obj b26 ((x24.map TPage.row).flatten) 88, .sl v23 99 5 (l22.map TRec.row), .obj b18 ((x15.map TPage.row).flatten) 88, .obj b9 ((x6.map TPage.row).flatten) 88, .obj b2 ((a2.map TPage.row).flatten) 88, .obj b1 ((a1.map I).flatten) 76, .sl v14 99 5 (l13.map TRec.row)]) [] (by kernel_rfl) rfl (Zc.fin (fun _ hw => hw))) rfl rfl ?_
      refine V2.pass (i := 21) (Nx2.of (Z := Cls w [] [.obj b26 ((x24.map TPage.row).flatten) 88, .sl v23 99 5 (l22.map TRec.row), .obj b18 ((x15.map TPage.row).flatten) 88, .obj b9 ((x6.map TPage.row).flatten) 88, .obj b2 ((a2.map TPage.row).flatten) 88, .obj b1 ((a1.map I).flatten) 76, .sl v14 99 5 (l13.map TRec.row)]) [] (by kernel_rfl) rfl (Zc.fin (fun _ hw => hw))) rfl rfl ?_
      refine V2.y (i := 22) (Nx2.of (Z := Cls w [] [.obj b26 ((x24.map TPage.row).flatten) 88, .sl v23 99 5 (l22.map TRec.row), .obj b18 ((x15.map TPage.row).flatten) 88, .obj b9 ((x6.map TPage.row).flatten) 88, .obj b2 ((a2.map TPage.row).flatten) 88, .obj b1 ((a1.map I).flatten) 76, .sl v14 99 5 (l13.map TRec.row)]) [] (by kernel_rfl) rfl (Zc.fin (fun _ hw => hw))) rfl rfl rfl (Y.pickF rfl rfl) ?_
      refine V2.y (i := 23) (Nx2.of (Z := Cls w [] [.obj b26 ((x24.map TPage.row).flatten) 88, .sl v23 99 5 (l22.map TRec.row), .obj b18 ((x15.map TPage.row).flatten) 88, .obj b9 ((x6.map TPage.row).flatten) 88, .obj b2 ((a2.map TPage.row).flatten) 88, .obj b1 ((a1.map I).flatten) 76, .sl v14 99 5 (l13.map TRec.row)]) [] (by kernel_rfl) rfl (Zc.fin (fun _ hw => hw))) rfl rfl rfl (Y.assign rfl) ?_
      refine V2.done (by kernel_rfl) ?_
      refine E.thenN (W.ret (E.ret1 rfl rfl (fun w1 hw => ?_)))
      obtain rfl := Option.some.inj h
      exact ⟨_, _, rfl, ⟨rfl, rfl⟩, hw.sel [] (by decide) rfl⟩
    ·
     refine V2.y (i := 5) (Nx2.of (Z := Cls w [] [.obj b26 ((x24.map TPage.row).flatten) 88, .sl v23 99 5 (l22.map TRec.row), .obj b18 ((x15.map TPage.row).flatten) 88, .obj b9 ((x6.map TPage.row).flatten) 88, .obj b2 ((a2.map TPage.row).flatten) 88, .obj b1 ((a1.map I).flatten) 76, .sl v14 99 5 (l13.map TRec.row)]) [] (by kernel_rfl) rfl (Zc.fin (fun _ hw => hw))) rfl rfl rfl (Y.move rfl) ?_
     refine V2.pass (i := 6) (Nx2.of (Z := Cls w [] [.obj b26 ((x24.map TPage.row).flatten) 88, .sl v23 99 5 (l22.map TRec.row), .obj b18 ((x15.map TPage.row).flatten) 88, .obj b9 ((x6.map TPage.row).flatten) 88, .obj b2 ((a2.map TPage.row).flatten) 88, .obj b1 ((a1.map I).flatten) 76, .sl v14 99 5 (l13.map TRec.row)]) [] (by kernel_rfl) rfl (Zc.fin (fun _ hw => hw))) rfl rfl ?_
     refine V2.pass (i := 7) (Nx2.of (Z := Cls w [] [.obj b26 ((x24.map TPage.row).flatten) 88, .sl v23 99 5 (l22.map TRec.row), .obj b18 ((x15.map TPage.row).flatten) 88, .obj b9 ((x6.map TPage.row).flatten) 88, .obj b2 ((a2.map TPage.row).flatten) 88, .obj b1 ((a1.map I).flatten) 76, .sl v14 99 5 (l13.map TRec.row)]) [] (by kernel_rfl) rfl (Zc.fin (fun _ hw => hw))) rfl rfl ?_
     refine V2.y (i := 8) (Nx2.of (Z := Cls w [] [.obj b26 ((x24.map TPage.row).flatten) 88, .sl v23 99 5 (l22.map TRec.row), .obj b18 ((x15.map TPage.row).flatten) 88, .obj b9 ((x6.map TPage.row).flatten) 88, .obj b2 ((a2.map TPage.row).flatten) 88, .obj b1 ((a1.map I).flatten) 76, .sl v14 99 5 (l13.map TRec.row)]) [] (by kernel_rfl) rfl (Zc.fin (fun _ hw => hw))) rfl rfl rfl (Y.pickF rfl rfl) ?_
     refine V2.y (i := 9) (Nx2.of (Z := Cls w [] [.obj b26 ((x24.map TPage.row).flatten) 88, .sl v23 99 5 (l22.map TRec.row), .obj b18 ((x15.map TPage.row).flatten) 88, .obj b9 ((x6.map TPage.row).flatten) 88, .obj b2 ((a2.map TPage.row).flatten) 88, .obj b1 ((a1.map I).flatten) 76, .sl v14 99 5 (l13.map TRec.row)]) [] (by kernel_rfl) rfl (Zc.fin (fun _ hw => hw))) rfl rfl rfl (Y.move rfl) ?_
     refine V2.pass (i := 10) (Nx2.of (Z := Cls w [] [.obj b26 ((x24.map TPage.row).flatten) 88, .sl v23 99 5 (l22.map TRec.row), .obj b18 ((x15.map TPage.row).flatten) 88, .obj b9 ((x6.map TPage.row).flatten) 88, .obj b2 ((a2.map TPage.row).flatten) 88, .obj b1 ((a1.map I).flatten) 76, .sl v14 99 5 (l13.map TRec.row)]) [] (by kernel_rfl) rfl (Zc.fin (fun _ hw => hw))) rfl rfl ?_
     refine V2.pass (i := 11) (Nx2.of (Z := Cls w [] [.obj b26 ((x24.map TPage.row).flatten) 88, .sl v23 99 5 (l22.map TRec.row), .obj b18 ((x15.map TPage.row).flatten) 88, .obj b9 ((x6.map TPage.row).flatten) 88, .obj b2 ((a2.map TPage.row).flatten) 88, .obj b1 ((a1.map I).flatten) 76, .sl v14 99 5 (l13.map TRec.row)]) [] (by kernel_rfl) rfl (Zc.fin (fun _ hw => hw))) rfl rfl ?_
     refine V2.pass (i := 12) (Nx2.of (Z := Cls w [] [.obj b26 ((x24.map TPage.row).flatten) 88, .sl v23 99 5 (l22.map TRec.row), .obj b18 ((x15.map TPage.row).flatten) 88, .obj b9 ((x6.map TPage.row).flatten) 88, .obj b2 ((a2.map TPage.row).flatten) 88, .obj b1 ((a1.map I).flatten) 76, .sl v14 99 5 (l13.map TRec.row)]) [] (by kernel_rfl) rfl (Zc.fin (fun _ hw => hw))) rfl rfl ?_
     refine V2.y (i := 13) (Nx2.of (Z := Cls w [] [.obj b26 ((x24.map TPage.row).flatten) 88, .sl v23 99 5 (l22.map TRec.row), .obj b18 ((x15.map TPage.row).flatten) 88, .obj b9 ((x6.map TPage.row).flatten) 88, .obj b2 ((a2.map TPage.row).flatten) 88, .obj b1 ((a1.map I).flatten) 76, .sl v14 99 5 (l13.map TRec.row)]) [] (by kernel_rfl) rfl (Zc.fin (fun _ hw => hw))) rfl rfl rfl (Y.pickF rfl rfl) ?_
     refine V2.y (i := 14) (Nx2.of (Z := Cls w [] [.obj b26 ((x24.map TPage.row).flatten) 88, .sl v23 99 5 (l22.map TRec.row), .obj b18 ((x15.map TPage.row).flatten) 88, .obj b9 ((x6.map TPage.row).flatten) 88, .obj b2 ((a2.map TPage.row).flatten) 88, .obj b1 ((a1.map I).flatten) 76, .sl v14 99 5 (l13.map TRec.row)]) [] (by kernel_rfl) rfl (Zc.fin (fun _ hw => hw))) rfl rfl rfl (Y.move rfl) ?_
     refine V2.pass (i := 15) (Nx2.of (Z := Cls w [] [.obj b26 ((x24.map TPage.row).flatten) 88, .sl v23 99 5 (l22.map TRec.row), .obj b18 ((x15.map TPage.row).flatten) 88, .obj b9 ((x6.map TPage.row).flatten) 88, .obj b2 ((a2.map TPage.row).flatten) 88, .obj b1 ((a1.map I).flatten) 76, .sl v14 99 5 (l13.map TRec.row)]) [] (by kernel_rfl) rfl (Zc.fin (fun _ hw => hw))) rfl rfl ?_
     refine V2.pass (i := 16) (Nx2.of (Z := Cls w [] [.obj b26 ((x24.map TPage.row).flatten) 88, .sl v23 99 5 (l22.map TRec.row), .obj b18 ((x15.map TPage.row).flatten) 88, .obj b9 ((x6.map TPage.row).flatten) 88, .obj b2 ((a2.map TPage.row).flatten) 88, .obj b1 ((a1.map I).flatten) 76, .sl v14 99 5 (l13.map TRec.row)]) [] (by kernel_rfl) rfl (Zc.fin (fun _ hw => hw))) rfl rfl ?_
     refine V2.pass (i := 17) (Nx2.of (Z := Cls w [] [.obj b26 ((x24.map TPage.row).flatten) 88, .sl v23 99 5 (l22.map TRec.row), .obj b18 ((x15.map TPage.row).flatten) 88, .obj b9 ((x6.map TPage.row).flatten) 88, .obj b2 ((a2.map TPage.row).flatten) 88, .obj b1 ((a1.map I).flatten) 76, .sl v14 99 5 (l13.map TRec.row)]) [] (by kernel_rfl) rfl (Zc.fin (fun _ hw => hw))) rfl rfl ?_
     refine V2.y (i := 18) (Nx2.of (Z := Cls w [] [.obj b26 ((x24.map TPage.row).flatten) 88, .sl v23 99 5 (l22.map TRec.row), .obj b18 ((x15.map TPage.row).flatten) 88, .obj b9 ((x6.map TPage.row).flatten) 88, .obj b2 ((a2.map TPage.row).flatten) 88, .obj b1 ((a1.map I).flatten) 76, .sl v14 99 5 (l13.map TRec.row)]) [] (by kernel_rfl) rfl (Zc.fin (fun _ hw => hw))) rfl rfl rfl (Y.pickF rfl rfl) ?_
     refine V2.y (i := 19) (Nx2.of (Z := Cls w [] [.obj b26 ((x24.map TPage.row).flatten) 88, .sl v23 99 5 (l22.map TRec.row), .obj b18 ((x15.map TPage.row).flatten) 88, .obj b9 ((x6.map TPage.row).flatten) 88, .obj b2 ((a2.map TPage.row).flatten) 88, .obj b1 ((a1.map I).flatten) 76, .sl v14 99 5 (l13.map TRec.row)]) [] (by kernel_rfl) rfl (Zc.fin (fun _ hw => hw))) rfl rfl rfl (Y.move rfl) ?_
     refine V2.pass (i := 20) (Nx2.of (Z := Cls w [] [.obj b26 ((x24.map TPage.row).flatten) 88, .sl v23 99 5 (l22.map TRec.row), .obj b18 ((x15.map TPage.row).flatten) 88, .obj b9 ((x6.map TPage.row).flatten) 88, .obj b2 ((a2.map TPage.row).flatten) 88, .obj b1 ((a1.map I).flatten) 76, .sl v14 99 5 (l13.map TRec.row)]) [] (by kernel_rfl) rfl (Zc.fin (fun _ hw => hw))) rfl rfl ?_
     refine V2.pass (i := 21) (Nx2.of (Z := Cls w [] [.obj b26 ((x24.map TPage.row).flatten) 88, .sl v23 99 5 (l22.map TRec.row), .obj b18 ((x15.map TPage.row).flatten) 88, .obj b9 ((x6.map TPage.row).flatten) 88, .obj b2 ((a2.map TPage.row).flatten) 88, .obj b1 ((a1.map I).flatten) 76, .sl v14 99 5 (l13.map TRec.row)]) [] (by kernel_rfl) rfl (Zc.fin (fun _ hw => hw))) rfl rfl ?_
     refine V2.y (i := 22) (Nx2.of (Z := Cls w [] [.obj b26 ((x24.map TPage.row).flatten) 88, .sl v23 99 5 (l22.map TRec.row), .obj b18 ((x15.map TPage.row).flatten) 88, .obj b9 ((x6.map TPage.row).flatten) 88, .obj b2 ((a2.map TPage.row).flatten) 88, .obj b1 ((a1.map I).flatten) 76, .sl v14 99 5 (l13.map TRec.row)]) [] (by kernel_rfl) rfl (Zc.fin (fun _ hw => hw))) rfl rfl rfl (Y.pickF rfl rfl) ?_
     refine V2.y (i := 23) (Nx2.of (Z := Cls w [] [.obj b26 ((x24.map TPage.row).flatten) 88, .sl v23 99 5 (l22.map TRec.row), .obj b18 ((x15.map TPage.row).flatten) 88, .obj b9 ((x6.map TPage.row).flatten) 88, .obj b2 ((a2.map TPage.row).flatten) 88, .obj b1 ((a1.map I).flatten) 76, .sl v14 99 5 (l13.map TRec.row)]) [] (by kernel_rfl) rfl (Zc.fin (fun _ hw => hw))) rfl rfl rfl (Y.assign rfl) ?_
     refine V2.done (by kernel_rfl) ?_
     refine E.thenN (W.ret (E.ret1 rfl rfl (fun w1 hw => ?_)))
     obtain rfl := Option.some.inj h
     exact ⟨_, _, rfl, ⟨rfl, rfl⟩, hw.sel [] (by decide) rfl⟩
end Go.Proofs.Ytfmgjigdebofaaa
