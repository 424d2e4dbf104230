/-
  Walks, printed by a program of mine.
  Conditions: none.
-/
import Derived.Test.YtfmgjigdebofaaaSeM
import Derived.Test.YtfmgjigdebofaaaChecked
import Derived.KernelRfl
namespace Go.Proofs.Ytfmgjigdebofaaa
open Go.S
set_option linter.unusedVariables false
set_option linter.unusedSimpArgs false
theorem mixed : Try.prog.follows .mixedOrders = true := by kernel_rfl
theorem ag3 : aggB Try.prog 3 false = true := by kernel_rfl
theorem ag4 : aggB Try.prog 4 false = true := by kernel_rfl
theorem ag24 : aggB Try.prog 24 false = true := by kernel_rfl
theorem ag71 : aggB Try.prog 71 false = true := by kernel_rfl
theorem ag76 : aggB Try.prog 76 true = true := by kernel_rfl
theorem ag81 : aggB Try.prog 81 true = true := by kernel_rfl
theorem ag164 : aggB Try.prog 164 true = true := by kernel_rfl
theorem el3 : elemB Try.prog 3 1 8 = true := by kernel_rfl
theorem el81 : elemB Try.prog 81 2 16 = true := by kernel_rfl
theorem en51 : entB Try.prog 51 = true := by kernel_rfl
theorem en52 : entB Try.prog 52 = true := by kernel_rfl
theorem en53 : entB Try.prog 53 = true := by kernel_rfl
theorem en54 : entB Try.prog 54 = true := by kernel_rfl
theorem en55 : entB Try.prog 55 = true := by kernel_rfl
theorem en56 : entB Try.prog 56 = true := by kernel_rfl
theorem en107 : entB Try.prog 107 = true := by kernel_rfl
theorem en108 : entB Try.prog 108 = true := by kernel_rfl
theorem en109 : entB Try.prog 109 = true := by kernel_rfl
theorem en110 : entB Try.prog 110 = true := by kernel_rfl
theorem en111 : entB Try.prog 111 = true := by kernel_rfl
theorem en133 : entB Try.prog 133 = true := by kernel_rfl
theorem en148 : entB Try.prog 148 = true := by kernel_rfl
theorem en161 : entB Try.prog 161 = true := by kernel_rfl
theorem fd164_0 : fieldB Try.prog 164 0 0 = true := by kernel_rfl
theorem fd164_1 : fieldB Try.prog 164 1 1 = true := by kernel_rfl
theorem fd164_2 : fieldB Try.prog 164 2 2 = true := by kernel_rfl
theorem sz3 : szB Try.prog 3 1 = true := by kernel_rfl
theorem sz4 : szB Try.prog 4 1 = true := by kernel_rfl
theorem sz24 : szB Try.prog 24 1 = true := by kernel_rfl
theorem sz76 : szB Try.prog 76 20 = true := by kernel_rfl
theorem sz81 : szB Try.prog 81 2 = true := by kernel_rfl
theorem sz164 : szB Try.prog 164 3 = true := by kernel_rfl
theorem ze3 : zeroB Try.prog 3 = some [.int .i64 0] := by kernel_rfl
theorem ze76 : zeroB Try.prog 76 = some (List.replicate 20 (.int .i64 0)) := by kernel_rfl
theorem ze164 : zeroB Try.prog 164 = some [.int .i64 0, .int .i64 0, .int .i64 0] := by kernel_rfl
theorem ze165 : zeroB Try.prog 165 = some (List.replicate 20 (.slice none 0 0)) := by kernel_rfl
theorem ze167 : zeroB Try.prog 167 = some (List.replicate 12 (.bool false)) := by kernel_rfl
theorem plain_TOp (l : List TOp) : Plain (l.map TOp.row) := by
  intro r hr u hu
  obtain ⟨x, _, rfl⟩ := List.mem_map.1 hr
  simp only [TOp.row, List.mem_cons, List.not_mem_nil, or_false] at hu
  rcases hu with rfl | rfl | rfl <;> rfl
theorem plain_TSeen (l : List TSeen) : Plain (l.map TSeen.row) := by
  intro r hr u hu
  obtain ⟨x, _, rfl⟩ := List.mem_map.1 hr
  simp only [TSeen.row, List.mem_cons, List.not_mem_nil, or_false] at hu
  rcases hu with rfl | rfl <;> rfl
theorem eg81 : Try.prog.eqGuardType Try.prog.depth 81 = false := by kernel_rfl
theorem sh81 (x : TSeen) : shB Try.prog 5 81 x.row = true := by kernel_rfl
theorem inj81 (x y : TSeen) (h : x.row = y.row) : x = y := by
  cases x; cases y
  simpa [TSeen.row, st_inj] using h
theorem eg164 : Try.prog.eqGuardType Try.prog.depth 164 = false := by kernel_rfl
theorem sh164 (x : TOp) : shB Try.prog 5 164 x.row = true := by kernel_rfl
theorem inj164 (x y : TOp) (h : x.row = y.row) : x = y := by
  cases x; cases y
  simpa [TOp.row, st_inj] using h
theorem egA76 : Try.prog.eqGuardType Try.prog.depth 76 = false := by kernel_rfl
theorem isA76 : (Try.prog.info? 3).isSome = true := by kernel_rfl
theorem hrA76 (z : Int) : (I z).length = Try.prog.cellsOf 3 := by kernel_rfl
theorem shA76 (z : Int) : shB Try.prog 4 3 (I z) = true := by kernel_rfl
theorem injA76 (x y : Int) (h : I x = I y) : x = y := by
  simpa [I, st_inj] using h
set_option maxRecDepth 100000 in
set_option maxHeartbeats 8000000 in
theorem w51_quirref_RunErr (a0 : (List TOp)) (u0 : Value) (w : World) (r : Int) (h : m51_quirref_RunErr a0 = some r) (hA0 : At w u0 3 (a0.map TOp.row)) : Does Try.prog 51 [u0] w fun u m => u = .int .i64 r ∧ m = [] := by
  rw [m51_quirref_RunErr] at h
  refine body (n := 73) Try.func51 rfl rfl rfl (Cls.refl w) ?_
  refine W.seq ?_
  refine W.region ?_
  refine L.y rfl (Y.assign rfl) ?_
  refine L.nil ?_
  refine E.thenN ?_
  refine W.seqJ (fun gs D => gs = [(0, u0)] ∧ D = Cls w [] [] ∧ m51_quirref_RunErr_K1 a0 = some r) ?_ ?_
  ·
    refine W.seq ?_
    refine W.region ?_
    refine L.y rfl (Y.move rfl) ?_
    refine L.y rfl (Y.lenM (g := TOp.row) (l := a0) Try.underlying71 rfl (fun w' hw => hA0.cls0 hw)) ?_
    refine L.ite h rfl (Y.gtr rfl rfl) (fun c21 h => ?_) (fun c21 h => ?_)
    ·
      refine L.nil ?_
      refine E.thenN ?_
      refine W.condT rfl ?_
      refine W.seq ?_
      refine W.region ?_
      refine L.y rfl (Y.assign rfl) ?_
      refine L.nil ?_
      refine E.thenN ?_
      refine W.ret ?_
      refine E.KSR ?_
      refine E.ret1 rfl rfl (fun w1 hw => ?_)
      obtain rfl := Option.some.inj h
      exact ⟨_, _, rfl, ⟨rfl, rfl⟩, hw⟩
    ·
      refine L.nil ?_
      refine E.thenN ?_
      refine W.condF rfl ?_
      refine W.skip ?_
      exact E.joinJ ⟨rfl, rfl, h⟩ ⟨rfl, trivial⟩ (fun _ hw => hw)
  ·
    rintro _ _ ⟨rfl, rfl, h⟩
    rw [m51_quirref_RunErr_K1] at h
    refine W.seqJ (fun gs D => gs = [] ∧ D = Cls w [] [] ∧ m51_quirref_RunErr_K2 = some r) ?_ ?_
    ·
      refine W.seq ?_
      refine W.region ?_
      refine L.y rfl (Y.move rfl) ?_
      refine L.y rfl (Y.lenM (g := TOp.row) (l := a0) Try.underlying71 rfl (fun w' hw => hA0.cls0 hw)) ?_
      refine L.y rfl (Y.move rfl) ?_
      refine L.nil ?_
      refine E.thenN ?_
      refine W.block ?_
      refine W.loopJ (fun m gs D => ∃ (gx1 : Int), gs = [(0, u0), (10, u0), (11, .int .i64 (a0.length : Int)), (12, .int .i64 gx1)] ∧ D = Cls w [] [] ∧ m51_quirref_RunErr_L1 a0 m gx1 = some r) ⟨0, rfl, rfl, h⟩ ⟨rfl, rfl, rfl, rfl, trivial⟩ (fun _ hw => hw) ?_
      rintro m _ _ ⟨gx1, rfl, rfl, h⟩
      rcases m with _ | m
      · rw [m51_quirref_RunErr_L1] at h; cases h
      rw [m51_quirref_RunErr_L1] at h
      generalize hg1 : m51_quirref_RunErr_L1 a0 m = go1 at h
      rw [m51_quirref_RunErr_L1B] at h
      refine W.seq ?_
      refine W.region ?_
      refine L.ite h rfl (Y.lss rfl rfl) (fun c1 h => ?_) (fun c1 h => ?_)
      ·
        refine L.nil ?_
        refine E.thenN ?_
        refine W.seq ?_
        refine W.condT rfl ?_
        refine W.skip ?_
        refine E.thenN ?_
        refine W.seqJ (fun gs D => gs = [(0, u0), (10, u0), (11, .int .i64 (a0.length : Int)), (12, .int .i64 gx1)] ∧ D = Cls w [] [] ∧ m51_quirref_RunErr_K3 gx1 go1 = some r) ?_ ?_
        ·
          refine W.block ?_
          refine W.seq ?_
          refine W.region ?_
          refine L.y rfl (Y.move rfl) ?_
          refine L.m (V := fun _ => el u0 (gx1.toNat * 3)) h rfl (Y.indexM (g := TOp.row) (l := a0) Try.underlying71 sz164 rfl rfl (fun w' hw => hA0.cls0 hw)) (fun x3 ex3 h => ?_)
          refine L.y rfl (Y.loadEN (r := [.int .i64 x3.Tx, .int .i64 x3.Kind, .int .i64 x3.Item]) ag164 sz164 rfl (fun w' hw => hA0.cls0 hw) (idx_map ex3) rfl) ?_
          refine L.alloc rfl ze164 ?_
          intro b4
          refine L.y rfl (Y.assign rfl) ?_
          refine L.store (i := 0) sz164 rfl rfl rfl rfl (by simp [Value.oneCell', Value.cells, st]) rfl (Nat.le_of_ble_eq_true rfl) ?_
          refine L.nil ?_
          refine E.thenN ?_
          refine W.seqJ (fun gs D => gs = [(0, u0), (3, .int .i64 gx1), (4, pt b4 0), (10, u0), (11, .int .i64 (a0.length : Int)), (12, .int .i64 gx1)] ∧ D = Cls w [] [.obj b4 [.int .i64 x3.Tx, .int .i64 x3.Kind, .int .i64 x3.Item] 164] ∧ m51_quirref_RunErr_K4 x3 a0 gx1 go1 = some r) ?_ ?_
          ·
            refine W.seq ?_
            refine W.region ?_
            refine L.cutJ 8 (fun gs D => ∃ (gb5 : Bool), gs = [(0, u0), (3, .int .i64 gx1), (4, pt b4 0), (10, u0), (11, .int .i64 (a0.length : Int)), (12, .int .i64 gx1), (24, .bool gb5)] ∧ D = Cls w [] [.obj b4 [.int .i64 x3.Tx, .int .i64 x3.Kind, .int .i64 x3.Item] 164] ∧ m51_quirref_RunErr_K8 x3 a0 gx1 go1 gb5 = some r) ?_ ?_
            ·
              refine L.y rfl (Y.fieldP fd164_0 rfl) ?_
              refine L.y rfl (Y.loadP (i := 0) ag3 rfl rfl rfl) ?_
              refine L.ite h rfl (Y.lss rfl rfl) (fun c19 h => ?_) (fun c19 h => ?_)
              ·
                refine L.y rfl (Y.move rfl) ?_
                refine L.pass rfl rfl (by nofun) ?_
                refine L.pass rfl rfl (by nofun) ?_
                refine L.pass rfl rfl (by nofun) ?_
                refine L.y rfl (Y.pickT rfl rfl) ?_
                refine L.nil ?_
                exact E.joinJ ⟨true, rfl, rfl, h⟩ ⟨rfl, rfl, rfl, rfl, rfl, rfl, rfl, trivial⟩ (fun _ hw => hw)
              ·
                refine L.y rfl (Y.move rfl) ?_
                refine L.take rfl ?_
                refine L.y rfl (Y.fieldP fd164_0 rfl) ?_
                refine L.take rfl ?_
                refine L.y rfl (Y.loadP (i := 0) ag3 rfl rfl rfl) ?_
                refine L.take rfl ?_
                refine L.ite h rfl (Y.gtr rfl rfl) (fun c20 h => ?_) (fun c20 h => ?_)
                ·
                  refine L.y rfl (Y.pickF rfl rfl) ?_
                  refine L.nil ?_
                  exact E.joinJ ⟨true, rfl, rfl, h⟩ ⟨rfl, rfl, rfl, rfl, rfl, rfl, rfl, trivial⟩ (fun _ hw => hw)
                ·
                  refine L.y rfl (Y.pickF rfl rfl) ?_
                  refine L.nil ?_
                  exact E.joinJ ⟨false, rfl, rfl, h⟩ ⟨rfl, rfl, rfl, rfl, rfl, rfl, rfl, trivial⟩ (fun _ hw => hw)
            ·
              rintro _ _ ⟨gb5, rfl, rfl, h⟩
              rw [m51_quirref_RunErr_K8] at h
              rcases gb5 with _ | _
              ·
                replace h := iteF h
                refine L.y rfl (Y.move rfl) ?_
                refine L.take rfl ?_
                refine L.y rfl (Y.fieldP fd164_2 rfl) ?_
                refine L.take rfl ?_
                refine L.y rfl (Y.loadP (i := 0) ag3 rfl rfl rfl) ?_
                refine L.take rfl ?_
                refine L.ite h rfl (Y.lss rfl rfl) (fun c17 h => ?_) (fun c17 h => ?_)
                ·
                  refine L.y rfl (Y.pickF rfl rfl) ?_
                  refine L.y rfl (Y.move rfl) ?_
                  refine L.pass rfl rfl (by nofun) ?_
                  refine L.pass rfl rfl (by nofun) ?_
                  refine L.pass rfl rfl (by nofun) ?_
                  refine L.y rfl (Y.pickT rfl rfl) ?_
                  refine L.nil ?_
                  refine E.thenN ?_
                  refine W.condT rfl ?_
                  refine W.seq ?_
                  refine W.region ?_
                  refine L.y rfl (Y.assign rfl) ?_
                  refine L.nil ?_
                  refine E.thenN ?_
                  refine W.ret ?_
                  refine E.KSR ?_
                  refine E.blockR ?_
                  refine E.KSR ?_
                  refine E.KLR ?_
                  refine E.blockR ?_
                  refine E.KSR ?_
                  refine E.ret1 rfl rfl (fun w1 hw => ?_)
                  obtain rfl := Option.some.inj h
                  exact ⟨_, _, rfl, ⟨rfl, rfl⟩, hw.sel [] (by decide) rfl⟩
                ·
                  refine L.y rfl (Y.pickF rfl rfl) ?_
                  refine L.y rfl (Y.move rfl) ?_
                  refine L.take rfl ?_
                  refine L.y rfl (Y.fieldP fd164_2 rfl) ?_
                  refine L.take rfl ?_
                  refine L.y rfl (Y.loadP (i := 0) ag3 rfl rfl rfl) ?_
                  refine L.take rfl ?_
                  refine L.ite h rfl (Y.gtr rfl rfl) (fun c18 h => ?_) (fun c18 h => ?_)
                  ·
                    refine L.y rfl (Y.pickF rfl rfl) ?_
                    refine L.nil ?_
                    refine E.thenN ?_
                    refine W.condT rfl ?_
                    refine W.seq ?_
                    refine W.region ?_
                    refine L.y rfl (Y.assign rfl) ?_
                    refine L.nil ?_
                    refine E.thenN ?_
                    refine W.ret ?_
                    refine E.KSR ?_
                    refine E.blockR ?_
                    refine E.KSR ?_
                    refine E.KLR ?_
                    refine E.blockR ?_
                    refine E.KSR ?_
                    refine E.ret1 rfl rfl (fun w1 hw => ?_)
                    obtain rfl := Option.some.inj h
                    exact ⟨_, _, rfl, ⟨rfl, rfl⟩, hw.sel [] (by decide) rfl⟩
                  ·
                    refine L.y rfl (Y.pickF rfl rfl) ?_
                    refine L.nil ?_
                    refine E.thenN ?_
                    refine W.condF rfl ?_
                    refine W.skip ?_
                    exact E.joinJ ⟨rfl, rfl, h⟩ ⟨rfl, rfl, rfl, rfl, rfl, rfl, trivial⟩ (fun _ hw => hw)
              ·
                replace h := iteT h
                refine L.y rfl (Y.move rfl) ?_
                refine L.pass rfl rfl (by nofun) ?_
                refine L.pass rfl rfl (by nofun) ?_
                refine L.pass rfl rfl (by nofun) ?_
                refine L.y rfl (Y.pickT rfl rfl) ?_
                refine L.y rfl (Y.move rfl) ?_
                refine L.pass rfl rfl (by nofun) ?_
                refine L.pass rfl rfl (by nofun) ?_
                refine L.pass rfl rfl (by nofun) ?_
                refine L.y rfl (Y.pickT rfl rfl) ?_
                refine L.nil ?_
                refine E.thenN ?_
                refine W.condT rfl ?_
                refine W.seq ?_
                refine W.region ?_
                refine L.y rfl (Y.assign rfl) ?_
                refine L.nil ?_
                refine E.thenN ?_
                refine W.ret ?_
                refine E.KSR ?_
                refine E.blockR ?_
                refine E.KSR ?_
                refine E.KLR ?_
                refine E.blockR ?_
                refine E.KSR ?_
                refine E.ret1 rfl rfl (fun w1 hw => ?_)
                obtain rfl := Option.some.inj h
                exact ⟨_, _, rfl, ⟨rfl, rfl⟩, hw.sel [] (by decide) rfl⟩
          ·
            rintro _ _ ⟨rfl, rfl, h⟩
            rw [m51_quirref_RunErr_K4] at h
            refine W.seqJ (fun gs D => gs = [(0, u0), (3, .int .i64 gx1), (4, pt b4 0), (10, u0), (11, .int .i64 (a0.length : Int)), (12, .int .i64 gx1)] ∧ D = Cls w [] [.obj b4 [.int .i64 x3.Tx, .int .i64 x3.Kind, .int .i64 x3.Item] 164] ∧ m51_quirref_RunErr_K5 a0 gx1 x3 go1 = some r) ?_ ?_
            ·
              refine W.seq ?_
              refine W.region ?_
              refine L.cutJ 8 (fun gs D => ∃ (gb3 : Bool), gs = [(0, u0), (3, .int .i64 gx1), (4, pt b4 0), (10, u0), (11, .int .i64 (a0.length : Int)), (12, .int .i64 gx1), (42, .bool gb3)] ∧ D = Cls w [] [.obj b4 [.int .i64 x3.Tx, .int .i64 x3.Kind, .int .i64 x3.Item] 164] ∧ m51_quirref_RunErr_K6 x3 a0 gx1 go1 gb3 = some r) ?_ ?_
              ·
                refine L.y rfl (Y.fieldP fd164_1 rfl) ?_
                refine L.y rfl (Y.loadP (i := 0) ag3 rfl rfl rfl) ?_
                refine L.ite h rfl (Y.lss rfl rfl) (fun c15 h => ?_) (fun c15 h => ?_)
                ·
                  refine L.y rfl (Y.move rfl) ?_
                  refine L.pass rfl rfl (by nofun) ?_
                  refine L.pass rfl rfl (by nofun) ?_
                  refine L.pass rfl rfl (by nofun) ?_
                  refine L.y rfl (Y.pickT rfl rfl) ?_
                  refine L.nil ?_
                  exact E.joinJ ⟨true, rfl, rfl, h⟩ ⟨rfl, rfl, rfl, rfl, rfl, rfl, rfl, trivial⟩ (fun _ hw => hw)
                ·
                  refine L.y rfl (Y.move rfl) ?_
                  refine L.take rfl ?_
                  refine L.y rfl (Y.fieldP fd164_1 rfl) ?_
                  refine L.take rfl ?_
                  refine L.y rfl (Y.loadP (i := 0) ag3 rfl rfl rfl) ?_
                  refine L.take rfl ?_
                  refine L.ite h rfl (Y.gtr rfl rfl) (fun c16 h => ?_) (fun c16 h => ?_)
                  ·
                    refine L.y rfl (Y.pickF rfl rfl) ?_
                    refine L.nil ?_
                    exact E.joinJ ⟨true, rfl, rfl, h⟩ ⟨rfl, rfl, rfl, rfl, rfl, rfl, rfl, trivial⟩ (fun _ hw => hw)
                  ·
                    refine L.y rfl (Y.pickF rfl rfl) ?_
                    refine L.nil ?_
                    exact E.joinJ ⟨false, rfl, rfl, h⟩ ⟨rfl, rfl, rfl, rfl, rfl, rfl, rfl, trivial⟩ (fun _ hw => hw)
              ·
                rintro _ _ ⟨gb3, rfl, rfl, h⟩
                rw [m51_quirref_RunErr_K6] at h
                rcases gb3 with _ | _
                ·
                  replace h := iteF h
                  refine L.cutJ 9 (fun gs D => ∃ (gb4 : Bool), gs = [(0, u0), (3, .int .i64 gx1), (4, pt b4 0), (10, u0), (11, .int .i64 (a0.length : Int)), (12, .int .i64 gx1), (43, .bool false), (51, .bool gb4)] ∧ D = Cls w [] [.obj b4 [.int .i64 x3.Tx, .int .i64 x3.Kind, .int .i64 x3.Item] 164] ∧ m51_quirref_RunErr_K7 a0 gx1 x3 go1 gb4 = some r) ?_ ?_
                  ·
                    refine L.y rfl (Y.move rfl) ?_
                    refine L.take rfl ?_
                    refine L.y rfl (Y.fieldP fd164_1 rfl) ?_
                    refine L.take rfl ?_
                    refine L.y rfl (Y.loadP (i := 0) ag3 rfl rfl rfl) ?_
                    refine L.take rfl ?_
                    refine L.ite h rfl (Y.gtr rfl rfl) (fun c13 h => ?_) (fun c13 h => ?_)
                    ·
                      refine L.take rfl ?_
                      refine L.y rfl (Y.move rfl) ?_
                      refine L.take rfl ?_
                      refine L.y rfl (Y.fieldP fd164_2 rfl) ?_
                      refine L.take rfl ?_
                      refine L.y rfl (Y.loadP (i := 0) ag3 rfl rfl rfl) ?_
                      refine L.take rfl ?_
                      refine L.ite h rfl (Y.neq rfl rfl) (fun c14 h => ?_) (fun c14 h => ?_)
                      ·
                        refine L.take rfl ?_
                        refine L.y rfl (Y.pickT rfl rfl) ?_
                        refine L.nil ?_
                        exact E.joinJ ⟨true, rfl, rfl, h⟩ ⟨rfl, rfl, rfl, rfl, rfl, rfl, rfl, rfl, trivial⟩ (fun _ hw => hw)
                      ·
                        refine L.take rfl ?_
                        refine L.y rfl (Y.pickT rfl rfl) ?_
                        refine L.nil ?_
                        exact E.joinJ ⟨false, rfl, rfl, h⟩ ⟨rfl, rfl, rfl, rfl, rfl, rfl, rfl, rfl, trivial⟩ (fun _ hw => hw)
                    ·
                      refine L.take rfl ?_
                      refine L.y rfl (Y.move rfl) ?_
                      refine L.pass rfl rfl (by nofun) ?_
                      refine L.pass rfl rfl (by nofun) ?_
                      refine L.pass rfl rfl (by nofun) ?_
                      refine L.take rfl ?_
                      refine L.y rfl (Y.pickF rfl rfl) ?_
                      refine L.nil ?_
                      exact E.joinJ ⟨false, rfl, rfl, h⟩ ⟨rfl, rfl, rfl, rfl, rfl, rfl, rfl, rfl, trivial⟩ (fun _ hw => hw)
                  ·
                    rintro _ _ ⟨gb4, rfl, rfl, h⟩
                    rw [m51_quirref_RunErr_K7] at h
                    rcases gb4 with _ | _
                    ·
                      replace h := iteF h
                      refine L.y rfl (Y.pickF rfl rfl) ?_
                      refine L.nil ?_
                      refine E.thenN ?_
                      refine W.condF rfl ?_
                      refine W.skip ?_
                      exact E.joinJ ⟨rfl, rfl, h⟩ ⟨rfl, rfl, rfl, rfl, rfl, rfl, trivial⟩ (fun _ hw => hw)
                    ·
                      replace h := iteT h
                      refine L.y rfl (Y.pickF rfl rfl) ?_
                      refine L.nil ?_
                      refine E.thenN ?_
                      refine W.condT rfl ?_
                      refine W.seq ?_
                      refine W.region ?_
                      refine L.y rfl (Y.assign rfl) ?_
                      refine L.nil ?_
                      refine E.thenN ?_
                      refine W.ret ?_
                      refine E.KSR ?_
                      refine E.blockR ?_
                      refine E.KSR ?_
                      refine E.KLR ?_
                      refine E.blockR ?_
                      refine E.KSR ?_
                      refine E.ret1 rfl rfl (fun w1 hw => ?_)
                      obtain rfl := Option.some.inj h
                      exact ⟨_, _, rfl, ⟨rfl, rfl⟩, hw.sel [] (by decide) rfl⟩
                ·
                  replace h := iteT h
                  refine L.y rfl (Y.move rfl) ?_
                  refine L.pass rfl rfl (by nofun) ?_
                  refine L.pass rfl rfl (by nofun) ?_
                  refine L.pass rfl rfl (by nofun) ?_
                  refine L.pass rfl rfl (by nofun) ?_
                  refine L.pass rfl rfl (by nofun) ?_
                  refine L.pass rfl rfl (by nofun) ?_
                  refine L.pass rfl rfl (by nofun) ?_
                  refine L.pass rfl rfl (by nofun) ?_
                  refine L.y rfl (Y.pickT rfl rfl) ?_
                  refine L.nil ?_
                  refine E.thenN ?_
                  refine W.condT rfl ?_
                  refine W.seq ?_
                  refine W.region ?_
                  refine L.y rfl (Y.assign rfl) ?_
                  refine L.nil ?_
                  refine E.thenN ?_
                  refine W.ret ?_
                  refine E.KSR ?_
                  refine E.blockR ?_
                  refine E.KSR ?_
                  refine E.KLR ?_
                  refine E.blockR ?_
                  refine E.KSR ?_
                  refine E.ret1 rfl rfl (fun w1 hw => ?_)
                  obtain rfl := Option.some.inj h
                  exact ⟨_, _, rfl, ⟨rfl, rfl⟩, hw.sel [] (by decide) rfl⟩
            ·
              rintro _ _ ⟨rfl, rfl, h⟩
              rw [m51_quirref_RunErr_K5] at h
              refine W.seq ?_
              refine W.region ?_
              refine L.y rfl (Y.move rfl) ?_
              refine L.y rfl (Y.move rfl) ?_
              refine L.m (V := fun _ => cutv u0 gx1.toNat) h rfl (Y.cutM (g := TOp.row) Try.underlying71 sz164 rfl rfl (fun w' hw => hA0.cls0 hw)) (fun l5 el5 h => ?_)
              refine L.y rfl (Y.lenM (g := TOp.row) (l := l5) Try.underlying71 rfl (fun w' hw => (At.cutM hA0 el5).cls0 hw)) ?_
              refine L.y rfl (Y.move rfl) ?_
              refine L.nil ?_
              refine E.thenN ?_
              refine W.block ?_
              refine W.loopJ (fun m gs D => ∃ (gx2 : Int), gs = [(0, u0), (4, pt b4 0), (10, u0), (11, .int .i64 (a0.length : Int)), (12, .int .i64 gx1), (55, cutv u0 gx1.toNat), (56, .int .i64 (l5.length : Int)), (57, .int .i64 gx2)] ∧ D = Cls w [] [.obj b4 [.int .i64 x3.Tx, .int .i64 x3.Kind, .int .i64 x3.Item] 164] ∧ m51_quirref_RunErr_L2 l5 x3 gx1 go1 m gx2 = some r) ⟨0, rfl, rfl, h⟩ ⟨rfl, rfl, rfl, rfl, rfl, rfl, rfl, rfl, trivial⟩ (fun _ hw => hw) ?_
              rintro m _ _ ⟨gx2, rfl, rfl, h⟩
              rcases m with _ | m
              · rw [m51_quirref_RunErr_L2] at h; cases h
              rw [m51_quirref_RunErr_L2] at h
              generalize hg2 : m51_quirref_RunErr_L2 l5 x3 gx1 go1 m = go2 at h
              rw [m51_quirref_RunErr_L2B] at h
              refine W.seq ?_
              refine W.region ?_
              refine L.ite h rfl (Y.lss rfl rfl) (fun c6 h => ?_) (fun c6 h => ?_)
              ·
                refine L.nil ?_
                refine E.thenN ?_
                refine W.seq ?_
                refine W.condT rfl ?_
                refine W.skip ?_
                refine E.thenN ?_
                refine W.seq ?_
                refine W.block ?_
                refine W.seq ?_
                refine W.region ?_
                refine L.m (V := fun _ => el (cutv u0 gx1.toNat) (gx2.toNat * 3)) h rfl (Y.indexM (g := TOp.row) (l := l5) Try.underlying71 sz164 rfl rfl (fun w' hw => (At.cutM hA0 el5).cls0 hw)) (fun x7 ex7 h => ?_)
                refine L.y rfl (Y.loadEN (r := [.int .i64 x7.Tx, .int .i64 x7.Kind, .int .i64 x7.Item]) ag164 sz164 rfl (fun w' hw => (At.cutM hA0 el5).cls0 hw) (idx_map ex7) rfl) ?_
                refine L.alloc rfl ze164 ?_
                intro b8
                refine L.store (i := 0) sz164 rfl rfl rfl rfl (by simp [Value.oneCell', Value.cells, st]) rfl (Nat.le_of_ble_eq_true rfl) ?_
                refine L.nil ?_
                refine E.thenN ?_
                refine W.seq ?_
                refine W.region ?_
                refine L.y rfl (Y.fieldP fd164_0 rfl) ?_
                refine L.y rfl (Y.loadP (i := 0) ag3 rfl rfl rfl) ?_
                refine L.y rfl (Y.fieldP fd164_0 rfl) ?_
                refine L.y rfl (Y.loadP (i := 1) ag3 rfl rfl rfl) ?_
                refine L.ite h rfl (Y.eql rfl rfl) (fun c9 h => ?_) (fun c9 h => ?_)
                ·
                  refine L.y rfl (Y.move rfl) ?_
                  refine L.take rfl ?_
                  refine L.y rfl (Y.fieldP fd164_1 rfl) ?_
                  refine L.take rfl ?_
                  refine L.y rfl (Y.loadP (i := 0) ag3 rfl rfl rfl) ?_
                  refine L.take rfl ?_
                  refine L.ite h rfl (Y.gtr rfl rfl) (fun c10 h => ?_) (fun c10 h => ?_)
                  ·
                    refine L.y rfl (Y.pickT rfl rfl) ?_
                    refine L.nil ?_
                    refine E.thenN ?_
                    refine W.condT rfl ?_
                    refine W.seq ?_
                    refine W.region ?_
                    refine L.y rfl (Y.assign rfl) ?_
                    refine L.nil ?_
                    refine E.thenN ?_
                    refine W.ret ?_
                    refine E.blockR ?_
                    refine E.thenR ?_
                    refine E.KLR ?_
                    refine E.blockR ?_
                    refine E.blockR ?_
                    refine E.KSR ?_
                    refine E.KLR ?_
                    refine E.blockR ?_
                    refine E.KSR ?_
                    refine E.ret1 rfl rfl (fun w1 hw => ?_)
                    obtain rfl := Option.some.inj h
                    exact ⟨_, _, rfl, ⟨rfl, rfl⟩, hw.sel [] (by decide) rfl⟩
                  ·
                    refine L.y rfl (Y.pickT rfl rfl) ?_
                    refine L.nil ?_
                    refine E.thenN ?_
                    refine W.condF rfl ?_
                    refine W.skip ?_
                    refine E.blockN ?_
                    refine E.thenN ?_
                    refine W.region ?_
                    refine L.m (V := fun x11 => .int .i64 x11) h rfl (Y.addM rfl rfl) (fun x11 ex11 h => ?_)
                    refine L.y rfl (Y.move rfl) ?_
                    refine L.nil ?_
                    exact E.againJ ⟨x11, rfl, rfl, by rw [hg2]; exact h⟩ (Nat.lt_succ_self _) ⟨rfl, rfl, rfl, rfl, rfl, rfl, rfl, rfl, trivial⟩ (fun _ hw => hw.sel [1] (by decide) rfl)
                ·
                  refine L.y rfl (Y.move rfl) ?_
                  refine L.pass rfl rfl (by nofun) ?_
                  refine L.pass rfl rfl (by nofun) ?_
                  refine L.pass rfl rfl (by nofun) ?_
                  refine L.y rfl (Y.pickF rfl rfl) ?_
                  refine L.nil ?_
                  refine E.thenN ?_
                  refine W.condF rfl ?_
                  refine W.skip ?_
                  refine E.blockN ?_
                  refine E.thenN ?_
                  refine W.region ?_
                  refine L.m (V := fun x12 => .int .i64 x12) h rfl (Y.addM rfl rfl) (fun x12 ex12 h => ?_)
                  refine L.y rfl (Y.move rfl) ?_
                  refine L.nil ?_
                  exact E.againJ ⟨x12, rfl, rfl, by rw [hg2]; exact h⟩ (Nat.lt_succ_self _) ⟨rfl, rfl, rfl, rfl, rfl, rfl, rfl, rfl, trivial⟩ (fun _ hw => hw.sel [1] (by decide) rfl)
              ·
                refine L.nil ?_
                refine E.thenN ?_
                refine W.seq ?_
                refine W.condF rfl ?_
                refine W.exit ?_
                refine E.thenX ?_
                refine E.KLX ?_
                refine E.blockX ?_
                refine E.blockN ?_
                exact E.joinJ ⟨rfl, rfl, h⟩ ⟨rfl, rfl, rfl, rfl, trivial⟩ (fun _ hw => hw.sel [] (by decide) rfl)
        ·
          rintro _ _ ⟨rfl, rfl, h⟩
          rw [m51_quirref_RunErr_K3] at h
          refine W.region ?_
          refine L.m (V := fun x2 => .int .i64 x2) h rfl (Y.addM rfl rfl) (fun x2 ex2 h => ?_)
          refine L.y rfl (Y.move rfl) ?_
          refine L.nil ?_
          exact E.againJ ⟨x2, rfl, rfl, by rw [hg1]; exact h⟩ (Nat.lt_succ_self _) ⟨rfl, rfl, rfl, rfl, trivial⟩ (fun _ hw => hw)
      ·
        refine L.nil ?_
        refine E.thenN ?_
        refine W.seq ?_
        refine W.condF rfl ?_
        refine W.exit ?_
        refine E.thenX ?_
        refine E.KLX ?_
        refine E.blockX ?_
        exact E.joinJ ⟨rfl, rfl, h⟩ trivial (fun _ hw => hw)
    ·
      rintro _ _ ⟨rfl, rfl, h⟩
      rw [m51_quirref_RunErr_K2] at h
      refine W.seq ?_
      refine W.region ?_
      refine L.y rfl (Y.assign rfl) ?_
      refine L.nil ?_
      refine E.thenN ?_
      refine W.ret ?_
      refine E.ret1 rfl rfl (fun w1 hw => ?_)
      obtain rfl := Option.some.inj h
      exact ⟨_, _, rfl, ⟨rfl, rfl⟩, hw⟩
set_option maxRecDepth 100000 in
set_option maxHeartbeats 8000000 in
theorem w107_run_Check (a0 : (List TOp)) (u0 : Value) (w : World) (r : Int) (h : m107_run_Check a0 = some r) (hA0 : At w u0 3 (a0.map TOp.row)) : Does Try.prog 107 [u0] w fun u m => u = .int .i64 r ∧ m = [] := by
  rw [m107_run_Check] at h
  refine body (n := 55) Try.func107 rfl rfl rfl (Cls.refl w) ?_
  refine W.seq ?_
  refine W.region ?_
  refine L.y rfl (Y.assign rfl) ?_
  refine L.nil ?_
  refine E.thenN ?_
  refine W.seqJ (fun gs D => gs = [(0, u0)] ∧ D = Cls w [] [] ∧ m107_run_Check_K1 a0 = some r) ?_ ?_
  ·
    refine W.seq ?_
    refine W.region ?_
    refine L.y rfl (Y.move rfl) ?_
    refine L.y rfl (Y.lenM (g := TOp.row) (l := a0) Try.underlying71 rfl (fun w' hw => hA0.cls0 hw)) ?_
    refine L.ite h rfl (Y.gtr rfl rfl) (fun c20 h => ?_) (fun c20 h => ?_)
    ·
      refine L.nil ?_
      refine E.thenN ?_
      refine W.condT rfl ?_
      refine W.seq ?_
      refine W.region ?_
      refine L.y rfl (Y.assign rfl) ?_
      refine L.nil ?_
      refine E.thenN ?_
      refine W.ret ?_
      refine E.KSR ?_
      refine E.ret1 rfl rfl (fun w1 hw => ?_)
      obtain rfl := Option.some.inj h
      exact ⟨_, _, rfl, ⟨rfl, rfl⟩, hw⟩
    ·
      refine L.nil ?_
      refine E.thenN ?_
      refine W.condF rfl ?_
      refine W.skip ?_
      exact E.joinJ ⟨rfl, rfl, h⟩ ⟨rfl, trivial⟩ (fun _ hw => hw)
  ·
    rintro _ _ ⟨rfl, rfl, h⟩
    rw [m107_run_Check_K1] at h
    refine W.seq ?_
    refine W.region ?_
    refine L.alloc rfl ze167 ?_
    intro b1
    refine L.to (D := Cls w [] [.obj b1 (((List.replicate 12 (false : Bool)).map B).flatten) 167]) (fun _ hw => by first | exact hw | simpa [I, B, SR] using hw) ?_
    refine L.nil ?_
    refine E.thenN ?_
    refine W.seqJ (fun gs D => gs = [] ∧ D = Cls w [] [] ∧ m107_run_Check_K2 = some r) ?_ ?_
    ·
      refine W.seq ?_
      refine W.region ?_
      refine L.y rfl (Y.move rfl) ?_
      refine L.y rfl (Y.lenM (g := TOp.row) (l := a0) Try.underlying71 rfl (fun w' hw => hA0.cls0 hw)) ?_
      refine L.y rfl (Y.move rfl) ?_
      refine L.nil ?_
      refine E.thenN ?_
      refine W.block ?_
      refine W.loopJ (fun m gs D => ∃ (gx1 : Int) (gl2 : (List Bool)), gs = [(3, pt b1 0), (9, u0), (10, .int .i64 (a0.length : Int)), (11, .int .i64 gx1)] ∧ D = Cls w [] [.obj b1 ((gl2.map B).flatten) 167] ∧ m107_run_Check_L1 a0 m gx1 gl2 = some r) ⟨0, (List.replicate 12 (false : Bool)), rfl, rfl, h⟩ ⟨rfl, rfl, rfl, rfl, trivial⟩ (fun _ hw => hw) ?_
      rintro m _ _ ⟨gx1, gl2, rfl, rfl, h⟩
      rcases m with _ | m
      · rw [m107_run_Check_L1] at h; cases h
      rw [m107_run_Check_L1] at h
      generalize hg1 : m107_run_Check_L1 a0 m = go1 at h
      rw [m107_run_Check_L1B] at h
      refine W.seq ?_
      refine W.region ?_
      refine L.ite h rfl (Y.lss rfl rfl) (fun c2 h => ?_) (fun c2 h => ?_)
      ·
        refine L.nil ?_
        refine E.thenN ?_
        refine W.seq ?_
        refine W.condT rfl ?_
        refine W.skip ?_
        refine E.thenN ?_
        refine W.seqJ (fun gs D => ∃ (gl3 : (List Bool)), gs = [(3, pt b1 0), (9, u0), (10, .int .i64 (a0.length : Int)), (11, .int .i64 gx1)] ∧ D = Cls w [] [.obj b1 ((gl3.map B).flatten) 167] ∧ m107_run_Check_K3 gx1 go1 gl3 = some r) ?_ ?_
        ·
          refine W.block ?_
          refine W.seq ?_
          refine W.region ?_
          refine L.m (V := fun _ => el u0 (gx1.toNat * 3)) h rfl (Y.indexM (g := TOp.row) (l := a0) Try.underlying71 sz164 rfl rfl (fun w' hw => hA0.cls0 hw)) (fun x4 ex4 h => ?_)
          refine L.y rfl (Y.loadEN (r := [.int .i64 x4.Tx, .int .i64 x4.Kind, .int .i64 x4.Item]) ag164 sz164 rfl (fun w' hw => hA0.cls0 hw) (idx_map ex4) rfl) ?_
          refine L.alloc rfl ze164 ?_
          intro b5
          refine L.store (i := 0) sz164 rfl rfl rfl rfl (by simp [Value.oneCell', Value.cells, st]) rfl (Nat.le_of_ble_eq_true rfl) ?_
          refine L.nil ?_
          refine E.thenN ?_
          refine W.seqJ (fun gs D => gs = [(3, pt b1 0), (5, pt b5 0), (9, u0), (10, .int .i64 (a0.length : Int)), (11, .int .i64 gx1)] ∧ D = Cls w [] [.obj b5 [.int .i64 x4.Tx, .int .i64 x4.Kind, .int .i64 x4.Item] 164, .obj b1 ((gl2.map B).flatten) 167] ∧ m107_run_Check_K4 x4 gl2 gx1 go1 = some r) ?_ ?_
          ·
            refine W.seq ?_
            refine W.region ?_
            refine L.cutJ 8 (fun gs D => ∃ (gb5 : Bool), gs = [(3, pt b1 0), (5, pt b5 0), (9, u0), (10, .int .i64 (a0.length : Int)), (11, .int .i64 gx1), (22, .bool gb5)] ∧ D = Cls w [] [.obj b5 [.int .i64 x4.Tx, .int .i64 x4.Kind, .int .i64 x4.Item] 164, .obj b1 ((gl2.map B).flatten) 167] ∧ m107_run_Check_K7 x4 gl2 gx1 go1 gb5 = some r) ?_ ?_
            ·
              refine L.y rfl (Y.fieldP fd164_0 rfl) ?_
              refine L.y rfl (Y.loadP (i := 0) ag3 rfl rfl rfl) ?_
              refine L.ite h rfl (Y.lss rfl rfl) (fun c18 h => ?_) (fun c18 h => ?_)
              ·
                refine L.y rfl (Y.move rfl) ?_
                refine L.pass rfl rfl (by nofun) ?_
                refine L.pass rfl rfl (by nofun) ?_
                refine L.pass rfl rfl (by nofun) ?_
                refine L.y rfl (Y.pickT rfl rfl) ?_
                refine L.nil ?_
                exact E.joinJ ⟨true, rfl, rfl, h⟩ ⟨rfl, rfl, rfl, rfl, rfl, rfl, trivial⟩ (fun _ hw => hw)
              ·
                refine L.y rfl (Y.move rfl) ?_
                refine L.take rfl ?_
                refine L.y rfl (Y.fieldP fd164_0 rfl) ?_
                refine L.take rfl ?_
                refine L.y rfl (Y.loadP (i := 0) ag3 rfl rfl rfl) ?_
                refine L.take rfl ?_
                refine L.ite h rfl (Y.geq rfl rfl) (fun c19 h => ?_) (fun c19 h => ?_)
                ·
                  refine L.y rfl (Y.pickF rfl rfl) ?_
                  refine L.nil ?_
                  exact E.joinJ ⟨true, rfl, rfl, h⟩ ⟨rfl, rfl, rfl, rfl, rfl, rfl, trivial⟩ (fun _ hw => hw)
                ·
                  refine L.y rfl (Y.pickF rfl rfl) ?_
                  refine L.nil ?_
                  exact E.joinJ ⟨false, rfl, rfl, h⟩ ⟨rfl, rfl, rfl, rfl, rfl, rfl, trivial⟩ (fun _ hw => hw)
            ·
              rintro _ _ ⟨gb5, rfl, rfl, h⟩
              rw [m107_run_Check_K7] at h
              rcases gb5 with _ | _
              ·
                replace h := iteF h
                refine L.y rfl (Y.move rfl) ?_
                refine L.take rfl ?_
                refine L.y rfl (Y.fieldP fd164_2 rfl) ?_
                refine L.take rfl ?_
                refine L.y rfl (Y.loadP (i := 0) ag3 rfl rfl rfl) ?_
                refine L.take rfl ?_
                refine L.ite h rfl (Y.lss rfl rfl) (fun c16 h => ?_) (fun c16 h => ?_)
                ·
                  refine L.y rfl (Y.pickF rfl rfl) ?_
                  refine L.y rfl (Y.move rfl) ?_
                  refine L.pass rfl rfl (by nofun) ?_
                  refine L.pass rfl rfl (by nofun) ?_
                  refine L.pass rfl rfl (by nofun) ?_
                  refine L.y rfl (Y.pickT rfl rfl) ?_
                  refine L.nil ?_
                  refine E.thenN ?_
                  refine W.condT rfl ?_
                  refine W.seq ?_
                  refine W.region ?_
                  refine L.y rfl (Y.assign rfl) ?_
                  refine L.nil ?_
                  refine E.thenN ?_
                  refine W.ret ?_
                  refine E.KSR ?_
                  refine E.blockR ?_
                  refine E.KSR ?_
                  refine E.KLR ?_
                  refine E.blockR ?_
                  refine E.KSR ?_
                  refine E.ret1 rfl rfl (fun w1 hw => ?_)
                  obtain rfl := Option.some.inj h
                  exact ⟨_, _, rfl, ⟨rfl, rfl⟩, hw.sel [] (by decide) rfl⟩
                ·
                  refine L.y rfl (Y.pickF rfl rfl) ?_
                  refine L.y rfl (Y.move rfl) ?_
                  refine L.take rfl ?_
                  refine L.y rfl (Y.fieldP fd164_2 rfl) ?_
                  refine L.take rfl ?_
                  refine L.y rfl (Y.loadP (i := 0) ag3 rfl rfl rfl) ?_
                  refine L.take rfl ?_
                  refine L.ite h rfl (Y.geq rfl rfl) (fun c17 h => ?_) (fun c17 h => ?_)
                  ·
                    refine L.y rfl (Y.pickF rfl rfl) ?_
                    refine L.nil ?_
                    refine E.thenN ?_
                    refine W.condT rfl ?_
                    refine W.seq ?_
                    refine W.region ?_
                    refine L.y rfl (Y.assign rfl) ?_
                    refine L.nil ?_
                    refine E.thenN ?_
                    refine W.ret ?_
                    refine E.KSR ?_
                    refine E.blockR ?_
                    refine E.KSR ?_
                    refine E.KLR ?_
                    refine E.blockR ?_
                    refine E.KSR ?_
                    refine E.ret1 rfl rfl (fun w1 hw => ?_)
                    obtain rfl := Option.some.inj h
                    exact ⟨_, _, rfl, ⟨rfl, rfl⟩, hw.sel [] (by decide) rfl⟩
                  ·
                    refine L.y rfl (Y.pickF rfl rfl) ?_
                    refine L.nil ?_
                    refine E.thenN ?_
                    refine W.condF rfl ?_
                    refine W.skip ?_
                    exact E.joinJ ⟨rfl, rfl, h⟩ ⟨rfl, rfl, rfl, rfl, rfl, trivial⟩ (fun _ hw => hw)
              ·
                replace h := iteT h
                refine L.y rfl (Y.move rfl) ?_
                refine L.pass rfl rfl (by nofun) ?_
                refine L.pass rfl rfl (by nofun) ?_
                refine L.pass rfl rfl (by nofun) ?_
                refine L.y rfl (Y.pickT rfl rfl) ?_
                refine L.y rfl (Y.move rfl) ?_
                refine L.pass rfl rfl (by nofun) ?_
                refine L.pass rfl rfl (by nofun) ?_
                refine L.pass rfl rfl (by nofun) ?_
                refine L.y rfl (Y.pickT rfl rfl) ?_
                refine L.nil ?_
                refine E.thenN ?_
                refine W.condT rfl ?_
                refine W.seq ?_
                refine W.region ?_
                refine L.y rfl (Y.assign rfl) ?_
                refine L.nil ?_
                refine E.thenN ?_
                refine W.ret ?_
                refine E.KSR ?_
                refine E.blockR ?_
                refine E.KSR ?_
                refine E.KLR ?_
                refine E.blockR ?_
                refine E.KSR ?_
                refine E.ret1 rfl rfl (fun w1 hw => ?_)
                obtain rfl := Option.some.inj h
                exact ⟨_, _, rfl, ⟨rfl, rfl⟩, hw.sel [] (by decide) rfl⟩
          ·
            rintro _ _ ⟨rfl, rfl, h⟩
            rw [m107_run_Check_K4] at h
            refine W.seqJ (fun gs D => gs = [(3, pt b1 0), (5, pt b5 0), (9, u0), (10, .int .i64 (a0.length : Int)), (11, .int .i64 gx1)] ∧ D = Cls w [] [.obj b5 [.int .i64 x4.Tx, .int .i64 x4.Kind, .int .i64 x4.Item] 164, .obj b1 ((gl2.map B).flatten) 167] ∧ m107_run_Check_K5 gl2 x4 gx1 go1 = some r) ?_ ?_
            ·
              refine W.seq ?_
              refine W.region ?_
              refine L.y rfl (Y.fieldP fd164_1 rfl) ?_
              refine L.y rfl (Y.loadP (i := 0) ag3 rfl rfl rfl) ?_
              refine L.nil ?_
              refine E.thenN ?_
              refine W.block ?_
              refine W.seqJ (fun gs D => ∃ (gb4 : Bool), gs = [(3, pt b1 0), (5, pt b5 0), (9, u0), (10, .int .i64 (a0.length : Int)), (11, .int .i64 gx1), (34, .int .i64 x4.Kind), (35, .bool gb4)] ∧ D = Cls w [] [.obj b5 [.int .i64 x4.Tx, .int .i64 x4.Kind, .int .i64 x4.Item] 164, .obj b1 ((gl2.map B).flatten) 167] ∧ m107_run_Check_K6 gl2 x4 gx1 go1 gb4 = some r) ?_ ?_
              ·
                refine W.seq ?_
                refine W.region ?_
                refine L.ite h rfl (Y.eql rfl rfl) (fun c14 h => ?_) (fun c14 h => ?_)
                ·
                  refine L.y rfl (Y.assign rfl) ?_
                  refine L.nil ?_
                  refine E.thenN ?_
                  refine W.condT rfl ?_
                  refine W.skip ?_
                  exact E.joinJ ⟨true, rfl, rfl, h⟩ ⟨rfl, rfl, rfl, rfl, rfl, rfl, rfl, trivial⟩ (fun _ hw => hw)
                ·
                  refine L.y rfl (Y.assign rfl) ?_
                  refine L.nil ?_
                  refine E.thenN ?_
                  refine W.condF rfl ?_
                  refine W.region ?_
                  refine L.ite h rfl (Y.eql rfl rfl) (fun c15 h => ?_) (fun c15 h => ?_)
                  ·
                    refine L.y rfl (Y.assign rfl) ?_
                    refine L.nil ?_
                    exact E.joinJ ⟨true, rfl, rfl, h⟩ ⟨rfl, rfl, rfl, rfl, rfl, rfl, rfl, trivial⟩ (fun _ hw => hw)
                  ·
                    refine L.y rfl (Y.assign rfl) ?_
                    refine L.nil ?_
                    exact E.joinJ ⟨false, rfl, rfl, h⟩ ⟨rfl, rfl, rfl, rfl, rfl, rfl, rfl, trivial⟩ (fun _ hw => hw)
              ·
                rintro _ _ ⟨gb4, rfl, rfl, h⟩
                rw [m107_run_Check_K6] at h
                rcases gb4 with _ | _
                ·
                  replace h := iteF h
                  refine W.condF rfl ?_
                  refine W.seq ?_
                  refine W.seq ?_
                  refine W.region ?_
                  refine L.ite h rfl (Y.eql rfl rfl) (fun c10 h => ?_) (fun c10 h => ?_)
                  ·
                    refine L.y rfl (Y.assign rfl) ?_
                    refine L.nil ?_
                    refine E.thenN ?_
                    refine W.condT rfl ?_
                    refine W.skip ?_
                    refine E.thenN ?_
                    refine W.condT rfl ?_
                    refine W.seq ?_
                    refine W.region ?_
                    refine L.y rfl (Y.fieldP fd164_2 rfl) ?_
                    refine L.y rfl (Y.loadP (i := 0) ag3 rfl rfl rfl) ?_
                    refine L.ite h rfl (Y.neq rfl rfl) (fun c11 h => ?_) (fun c11 h => ?_)
                    ·
                      refine L.nil ?_
                      refine E.thenN ?_
                      refine W.condT rfl ?_
                      refine W.seq ?_
                      refine W.region ?_
                      refine L.y rfl (Y.assign rfl) ?_
                      refine L.nil ?_
                      refine E.thenN ?_
                      refine W.ret ?_
                      refine E.blockR ?_
                      refine E.KSR ?_
                      refine E.blockR ?_
                      refine E.KSR ?_
                      refine E.KLR ?_
                      refine E.blockR ?_
                      refine E.KSR ?_
                      refine E.ret1 rfl rfl (fun w1 hw => ?_)
                      obtain rfl := Option.some.inj h
                      exact ⟨_, _, rfl, ⟨rfl, rfl⟩, hw.sel [] (by decide) rfl⟩
                    ·
                      refine L.nil ?_
                      refine E.thenN ?_
                      refine W.condF rfl ?_
                      refine W.skip ?_
                      refine E.blockN ?_
                      exact E.joinJ ⟨rfl, rfl, h⟩ ⟨rfl, rfl, rfl, rfl, rfl, trivial⟩ (fun _ hw => hw)
                  ·
                    refine L.y rfl (Y.assign rfl) ?_
                    refine L.nil ?_
                    refine E.thenN ?_
                    refine W.condF rfl ?_
                    refine W.region ?_
                    refine L.ite h rfl (Y.eql rfl rfl) (fun c12 h => ?_) (fun c12 h => ?_)
                    ·
                      refine L.y rfl (Y.assign rfl) ?_
                      refine L.nil ?_
                      refine E.thenN ?_
                      refine W.condT rfl ?_
                      refine W.seq ?_
                      refine W.region ?_
                      refine L.y rfl (Y.fieldP fd164_2 rfl) ?_
                      refine L.y rfl (Y.loadP (i := 0) ag3 rfl rfl rfl) ?_
                      refine L.ite h rfl (Y.neq rfl rfl) (fun c13 h => ?_) (fun c13 h => ?_)
                      ·
                        refine L.nil ?_
                        refine E.thenN ?_
                        refine W.condT rfl ?_
                        refine W.seq ?_
                        refine W.region ?_
                        refine L.y rfl (Y.assign rfl) ?_
                        refine L.nil ?_
                        refine E.thenN ?_
                        refine W.ret ?_
                        refine E.blockR ?_
                        refine E.KSR ?_
                        refine E.blockR ?_
                        refine E.KSR ?_
                        refine E.KLR ?_
                        refine E.blockR ?_
                        refine E.KSR ?_
                        refine E.ret1 rfl rfl (fun w1 hw => ?_)
                        obtain rfl := Option.some.inj h
                        exact ⟨_, _, rfl, ⟨rfl, rfl⟩, hw.sel [] (by decide) rfl⟩
                      ·
                        refine L.nil ?_
                        refine E.thenN ?_
                        refine W.condF rfl ?_
                        refine W.skip ?_
                        refine E.blockN ?_
                        exact E.joinJ ⟨rfl, rfl, h⟩ ⟨rfl, rfl, rfl, rfl, rfl, trivial⟩ (fun _ hw => hw)
                    ·
                      refine L.y rfl (Y.assign rfl) ?_
                      refine L.nil ?_
                      refine E.thenN ?_
                      refine W.condF rfl ?_
                      refine W.seq ?_
                      refine W.region ?_
                      refine L.y rfl (Y.assign rfl) ?_
                      refine L.nil ?_
                      refine E.thenN ?_
                      refine W.ret ?_
                      refine E.blockR ?_
                      refine E.KSR ?_
                      refine E.blockR ?_
                      refine E.KSR ?_
                      refine E.KLR ?_
                      refine E.blockR ?_
                      refine E.KSR ?_
                      refine E.ret1 rfl rfl (fun w1 hw => ?_)
                      obtain rfl := Option.some.inj h
                      exact ⟨_, _, rfl, ⟨rfl, rfl⟩, hw.sel [] (by decide) rfl⟩
                ·
                  replace h := iteT h
                  refine W.condT rfl ?_
                  refine W.skip ?_
                  refine E.blockN ?_
                  exact E.joinJ ⟨rfl, rfl, h⟩ ⟨rfl, rfl, rfl, rfl, rfl, trivial⟩ (fun _ hw => hw)
            ·
              rintro _ _ ⟨rfl, rfl, h⟩
              rw [m107_run_Check_K5] at h
              refine W.seq ?_
              refine W.seq ?_
              refine W.region ?_
              refine L.y rfl (Y.fieldP fd164_0 rfl) ?_
              refine L.y rfl (Y.loadP (i := 0) ag3 rfl rfl rfl) ?_
              refine L.m (V := fun _ => pt b1 (0 + x4.Tx.toNat * 1)) h rfl (Y.indexAM (l := gl2) Try.underlying167 sz4 rfl rfl) (fun x6 ex6 h => ?_)
              refine L.iteB h rfl (Y.loadAr (q := 1) (row := B) (j := 0) (p := .bool x6) ag4 rfl rfl rfl (fun _ => rfl) (idxA_idx ex6) rfl) (fun c7 h => ?_) (fun c7 h => ?_)
              ·
                refine L.nil ?_
                refine E.thenN ?_
                refine W.condT rfl ?_
                refine W.seq ?_
                refine W.region ?_
                refine L.y rfl (Y.assign rfl) ?_
                refine L.nil ?_
                refine E.thenN ?_
                refine W.ret ?_
                refine E.thenR ?_
                refine E.blockR ?_
                refine E.KSR ?_
                refine E.KLR ?_
                refine E.blockR ?_
                refine E.KSR ?_
                refine E.ret1 rfl rfl (fun w1 hw => ?_)
                obtain rfl := Option.some.inj h
                exact ⟨_, _, rfl, ⟨rfl, rfl⟩, hw.sel [] (by decide) rfl⟩
              ·
                refine L.nil ?_
                refine E.thenN ?_
                refine W.condF rfl ?_
                refine W.skip ?_
                refine E.thenN ?_
                refine W.region ?_
                refine L.y rfl (Y.fieldP fd164_0 rfl) ?_
                refine L.y rfl (Y.loadP (i := 0) ag3 rfl rfl rfl) ?_
                refine L.y rfl (Y.fieldP fd164_1 rfl) ?_
                refine L.y rfl (Y.loadP (i := 0) ag3 rfl rfl rfl) ?_
                refine L.y rfl (Y.geq rfl rfl) ?_
                refine L.m (V := fun _ => pt b1 (0 + x4.Tx.toNat * 1)) h rfl (Y.indexAM (l := gl2) Try.underlying167 sz4 rfl rfl) (fun x8 ex8 h => ?_)
                refine L.storeArM (q := 1) (row := B) (vs := [.bool (decide (3 ≤ x4.Kind))]) (j := 0) (u1 := decide (3 ≤ x4.Kind)) h sz4 rfl rfl rfl rfl rfl (all1 rfl all0) rfl (fun _ => rfl) (idxA_idx ex8) rfl rfl ?_
                intro l9 el9 h
                refine L.nil ?_
                refine E.blockN ?_
                exact E.joinJ ⟨l9, rfl, rfl, h⟩ ⟨rfl, rfl, rfl, rfl, trivial⟩ (fun _ hw => hw.sel [1] (by decide) rfl)
        ·
          rintro _ _ ⟨gl3, rfl, rfl, h⟩
          rw [m107_run_Check_K3] at h
          refine W.region ?_
          refine L.m (V := fun x3 => .int .i64 x3) h rfl (Y.addM rfl rfl) (fun x3 ex3 h => ?_)
          refine L.y rfl (Y.move rfl) ?_
          refine L.nil ?_
          exact E.againJ ⟨x3, gl3, rfl, rfl, by rw [hg1]; exact h⟩ (Nat.lt_succ_self _) ⟨rfl, rfl, rfl, rfl, trivial⟩ (fun _ hw => hw)
      ·
        refine L.nil ?_
        refine E.thenN ?_
        refine W.seq ?_
        refine W.condF rfl ?_
        refine W.exit ?_
        refine E.thenX ?_
        refine E.KLX ?_
        refine E.blockX ?_
        exact E.joinJ ⟨rfl, rfl, h⟩ trivial (fun _ hw => hw.sel [] (by decide) rfl)
    ·
      rintro _ _ ⟨rfl, rfl, h⟩
      rw [m107_run_Check_K2] at h
      refine W.seq ?_
      refine W.region ?_
      refine L.y rfl (Y.assign rfl) ?_
      refine L.nil ?_
      refine E.thenN ?_
      refine W.ret ?_
      refine E.ret1 rfl rfl (fun w1 hw => ?_)
      obtain rfl := Option.some.inj h
      exact ⟨_, _, rfl, ⟨rfl, rfl⟩, hw⟩
set_option maxRecDepth 100000 in
set_option maxHeartbeats 8000000 in
theorem w52_see_Reads (a0 : (List TOp)) (u0 : Value) (w : World) (r : ((List TSeen) × Int)) (h : m52_see_Reads a0 = some r) (hA0 : At w u0 3 (a0.map TOp.row)) : Does Try.prog 52 [u0] w fun u m => ∃ v0, u = .tuple #[v0, .int .i64 r.2] ∧ m = [.sl v0 81 2 (r.1.map TSeen.row)] := by
  rw [m52_see_Reads] at h
  refine body (n := 76) Try.func52 rfl rfl rfl (Cls.refl w) ?_
  refine W.seq ?_
  refine W.region ?_
  refine L.boxV rfl rfl (fun _ hw => (At.cls0 hA0 hw).one) ?_
  intro b1
  refine L.y rfl (Y.assign rfl) ?_
  refine L.y rfl (Y.assign rfl) ?_
  refine L.nil ?_
  refine E.thenN ?_
  refine W.seqJ (fun gs D => gs = [(1, pt b1 0)] ∧ D = Cls w [] [.obj b1 [u0] 71] ∧ m52_see_Reads_K1 a0 = some r) ?_ ?_
  ·
    refine W.seq ?_
    refine W.region ?_
    refine L.y rfl (Y.loadP (i := 0) ag71 rfl rfl rfl) ?_
    obtain ⟨x83, e84, h⟩ := bind1S h
    refine L.y rfl (Y.does en107 rfl (fun w' hw => (w107_run_Check a0 u0 w' _ e84 (hA0.cls0 hw)).mono (fun _ _ h => h.1))) ?_
    refine L.y rfl (Y.assign rfl) ?_
    refine L.nil ?_
    refine E.thenN ?_
    refine W.seq ?_
    refine W.region ?_
    refine L.y rfl (Y.move rfl) ?_
    refine L.ite h rfl (Y.neq rfl rfl) (fun c85 h => ?_) (fun c85 h => ?_)
    ·
      refine L.nil ?_
      refine E.thenN ?_
      refine W.condT rfl ?_
      refine W.seq ?_
      refine W.region ?_
      refine L.y rfl (Y.move rfl) ?_
      refine L.y rfl (Y.assign rfl) ?_
      refine L.y rfl (Y.assign rfl) ?_
      refine L.nil ?_
      refine E.thenN ?_
      refine W.ret ?_
      refine E.KSR ?_
      refine E.ret2 rfl rfl rfl (fun w1 hw => ?_)
      obtain rfl := Option.some.inj h
      exact ⟨_, _, rfl, ⟨_, rfl, rfl⟩, (hw.nilSl 81 2).sel [0] (by decide) rfl⟩
    ·
      refine L.nil ?_
      refine E.thenN ?_
      refine W.condF rfl ?_
      refine W.skip ?_
      exact E.joinJ ⟨rfl, rfl, h⟩ ⟨rfl, trivial⟩ (fun _ hw => hw)
  ·
    rintro _ _ ⟨rfl, rfl, h⟩
    rw [m52_see_Reads_K1] at h
    refine W.seq ?_
    refine W.region ?_
    refine L.alloc rfl ze165 ?_
    intro b2
    refine L.ssNew (row := svRow) (sds := (svSd 3 1 I)) (vs := (fun _ => [nilV])) (xs := (List.replicate 20 ([] : (List Int)))) rfl (zs_repl (gall1 rfl rfl gall0) _) ?_
    refine L.nil ?_
    refine E.thenN ?_
    refine W.seq ?_
    refine W.region ?_
    refine L.y rfl (Y.assign rfl) ?_
    refine L.nil ?_
    refine E.thenN ?_
    refine W.seqJ (fun gs D => ∃ (gv1 : Value) (gl2 : (List TSeen)), gs = [(6, gv1)] ∧ D = Cls w [] [.sl gv1 81 2 (gl2.map TSeen.row)] ∧ m52_see_Reads_K2 gl2 = some r) ?_ ?_
    ·
      refine W.seq ?_
      refine W.region ?_
      refine L.y rfl (Y.loadP (i := 2) ag71 rfl rfl rfl) ?_
      refine L.y rfl (Y.lenM (g := TOp.row) (l := a0) Try.underlying71 rfl (fun w' hw => hA0.cls0 hw)) ?_
      refine L.y rfl (Y.move rfl) ?_
      refine L.nil ?_
      refine E.thenN ?_
      refine W.block ?_
      refine W.nilSl 81 2 ?_
      refine W.loopJ (fun m gs D => ∃ (gv3 : Value) (gl4 : (List TSeen)) (gx5 : Int) (gl6 : (List (List Int))) (gq7 : Nat → List Value), gs = [(1, pt b1 0), (5, pt b2 0), (6, gv3), (17, u0), (18, .int .i64 (a0.length : Int)), (19, .int .i64 gx5)] ∧ D = Cls w [] [.obj b2 (zr svRow gq7 gl6).flatten 165, .ss (zs (svSd 3 1 I) gq7 gl6), .obj b1 [u0] 71, .sl gv3 81 2 (gl4.map TSeen.row)] ∧ m52_see_Reads_L1 a0 m gl4 gx5 gl6 = some r) ⟨.slice none 0 0, [], 0, (List.replicate 20 ([] : (List Int))), (fun _ => [nilV]), rfl, rfl, h⟩ ⟨rfl, rfl, rfl, rfl, rfl, rfl, trivial⟩ (fun _ hw => hw.sel [1, 2, 3, 0] (by decide) rfl) ?_
      rintro m _ _ ⟨gv3, gl4, gx5, gl6, gq7, rfl, rfl, h⟩
      rcases m with _ | m
      · rw [m52_see_Reads_L1] at h; cases h
      rw [m52_see_Reads_L1] at h
      generalize hg1 : m52_see_Reads_L1 a0 m = go1 at h
      rw [m52_see_Reads_L1B] at h
      refine W.seq ?_
      refine W.region ?_
      refine L.ite h rfl (Y.lss rfl rfl) (fun c3 h => ?_) (fun c3 h => ?_)
      ·
        refine L.nil ?_
        refine E.thenN ?_
        refine W.seq ?_
        refine W.condT rfl ?_
        refine W.skip ?_
        refine E.thenN ?_
        refine W.seqJ (fun gs D => ∃ (gv8 : Value) (gl9 : (List TSeen)) (gl10 : (List (List Int))) (gq11 : Nat → List Value), gs = [(1, pt b1 0), (5, pt b2 0), (6, gv8), (17, u0), (18, .int .i64 (a0.length : Int)), (19, .int .i64 gx5)] ∧ D = Cls w [] [.obj b2 (zr svRow gq11 gl10).flatten 165, .ss (zs (svSd 3 1 I) gq11 gl10), .obj b1 [u0] 71, .sl gv8 81 2 (gl9.map TSeen.row)] ∧ m52_see_Reads_K3 gx5 go1 gl9 gl10 = some r) ?_ ?_
        ·
          refine W.block ?_
          refine W.seq ?_
          refine W.region ?_
          refine L.y rfl (Y.move rfl) ?_
          refine L.m (V := fun _ => el u0 (gx5.toNat * 3)) h rfl (Y.indexM (g := TOp.row) (l := a0) Try.underlying71 sz164 rfl rfl (fun w' hw => hA0.cls0 hw)) (fun x5 ex5 h => ?_)
          refine L.y rfl (Y.loadEN (r := [.int .i64 x5.Tx, .int .i64 x5.Kind, .int .i64 x5.Item]) ag164 sz164 rfl (fun w' hw => hA0.cls0 hw) (idx_map ex5) rfl) ?_
          refine L.alloc rfl ze164 ?_
          intro b6
          refine L.y rfl (Y.assign rfl) ?_
          refine L.store (i := 0) sz164 rfl rfl rfl rfl (by simp [Value.oneCell', Value.cells, st]) rfl (Nat.le_of_ble_eq_true rfl) ?_
          refine L.nil ?_
          refine E.thenN ?_
          refine W.seq ?_
          refine W.region ?_
          refine L.y rfl (Y.fieldP fd164_1 rfl) ?_
          refine L.y rfl (Y.loadP (i := 0) ag3 rfl rfl rfl) ?_
          refine L.nil ?_
          refine E.thenN ?_
          refine W.block ?_
          refine W.seqJ (fun gs D => ∃ (gb12 : Bool), gs = [(1, pt b1 0), (5, pt b2 0), (6, gv3), (7, .int .i64 gx5), (8, pt b6 0), (17, u0), (18, .int .i64 (a0.length : Int)), (19, .int .i64 gx5), (25, .int .i64 x5.Kind), (26, .bool gb12)] ∧ D = Cls w [] [.obj b6 [.int .i64 x5.Tx, .int .i64 x5.Kind, .int .i64 x5.Item] 164, .obj b2 (zr svRow gq7 gl6).flatten 165, .ss (zs (svSd 3 1 I) gq7 gl6), .obj b1 [u0] 71, .sl gv3 81 2 (gl4.map TSeen.row)] ∧ m52_see_Reads_K4 gl6 x5 gl4 gx5 go1 a0 gb12 = some r) ?_ ?_
          ·
            refine W.region ?_
            refine L.ite h rfl (Y.eql rfl rfl) (fun c82 h => ?_) (fun c82 h => ?_)
            ·
              refine L.y rfl (Y.assign rfl) ?_
              refine L.nil ?_
              exact E.joinJ ⟨true, rfl, rfl, h⟩ ⟨rfl, rfl, rfl, rfl, rfl, rfl, rfl, rfl, rfl, rfl, trivial⟩ (fun _ hw => hw)
            ·
              refine L.y rfl (Y.assign rfl) ?_
              refine L.nil ?_
              exact E.joinJ ⟨false, rfl, rfl, h⟩ ⟨rfl, rfl, rfl, rfl, rfl, rfl, rfl, rfl, rfl, rfl, trivial⟩ (fun _ hw => hw)
          ·
            rintro _ _ ⟨gb12, rfl, rfl, h⟩
            rw [m52_see_Reads_K4] at h
            rcases gb12 with _ | _
            ·
              replace h := iteF h
              refine W.condF rfl ?_
              refine W.seqJ (fun gs D => ∃ (gb13 : Bool), gs = [(1, pt b1 0), (5, pt b2 0), (6, gv3), (7, .int .i64 gx5), (8, pt b6 0), (17, u0), (18, .int .i64 (a0.length : Int)), (19, .int .i64 gx5), (25, .int .i64 x5.Kind), (49, .bool gb13)] ∧ D = Cls w [] [.obj b6 [.int .i64 x5.Tx, .int .i64 x5.Kind, .int .i64 x5.Item] 164, .obj b2 (zr svRow gq7 gl6).flatten 165, .ss (zs (svSd 3 1 I) gq7 gl6), .obj b1 [u0] 71, .sl gv3 81 2 (gl4.map TSeen.row)] ∧ m52_see_Reads_K5 gl6 x5 gx5 go1 gl4 a0 gb13 = some r) ?_ ?_
              ·
                refine W.region ?_
                refine L.ite h rfl (Y.eql rfl rfl) (fun c70 h => ?_) (fun c70 h => ?_)
                ·
                  refine L.y rfl (Y.assign rfl) ?_
                  refine L.nil ?_
                  exact E.joinJ ⟨true, rfl, rfl, h⟩ ⟨rfl, rfl, rfl, rfl, rfl, rfl, rfl, rfl, rfl, rfl, trivial⟩ (fun _ hw => hw)
                ·
                  refine L.y rfl (Y.assign rfl) ?_
                  refine L.nil ?_
                  exact E.joinJ ⟨false, rfl, rfl, h⟩ ⟨rfl, rfl, rfl, rfl, rfl, rfl, rfl, rfl, rfl, rfl, trivial⟩ (fun _ hw => hw)
              ·
                rintro _ _ ⟨gb13, rfl, rfl, h⟩
                rw [m52_see_Reads_K5] at h
                rcases gb13 with _ | _
                ·
                  replace h := iteF h
                  refine W.condF rfl ?_
                  refine W.seq ?_
                  refine W.region ?_
                  refine L.ite h rfl (Y.eql rfl rfl) (fun c7 h => ?_) (fun c7 h => ?_)
                  ·
                    refine L.y rfl (Y.assign rfl) ?_
                    refine L.nil ?_
                    refine E.thenN ?_
                    refine W.condT rfl ?_
                    refine W.seq ?_
                    refine W.region ?_
                    refine L.y rfl (Y.move rfl) ?_
                    refine L.nil ?_
                    refine E.thenN ?_
                    refine W.block ?_
                    refine W.loopJ (fun m gs D => ∃ (gx14 : Int) (gl15 : (List (List Int))) (gq16 : Nat → List Value), gs = [(1, pt b1 0), (5, pt b2 0), (6, gv3), (8, pt b6 0), (17, u0), (18, .int .i64 (a0.length : Int)), (19, .int .i64 gx5), (63, .int .i64 gx14)] ∧ D = Cls w [] [.obj b6 [.int .i64 x5.Tx, .int .i64 x5.Kind, .int .i64 x5.Item] 164, .obj b2 (zr svRow gq16 gl15).flatten 165, .ss (zs (svSd 3 1 I) gq16 gl15), .obj b1 [u0] 71, .sl gv3 81 2 (gl4.map TSeen.row)] ∧ m52_see_Reads_L2 a0 x5 gx5 go1 gl4 m gx14 gl15 = some r) ⟨0, gl6, gq7, rfl, rfl, h⟩ ⟨rfl, rfl, rfl, rfl, rfl, rfl, rfl, rfl, trivial⟩ (fun _ hw => hw) ?_
                    rintro m _ _ ⟨gx14, gl15, gq16, rfl, rfl, h⟩
                    rcases m with _ | m
                    · rw [m52_see_Reads_L2] at h; cases h
                    rw [m52_see_Reads_L2] at h
                    generalize hg2 : m52_see_Reads_L2 a0 x5 gx5 go1 gl4 m = go2 at h
                    rw [m52_see_Reads_L2B] at h
                    refine W.seq ?_
                    refine W.region ?_
                    refine L.ite h rfl (Y.lss rfl rfl) (fun c8 h => ?_) (fun c8 h => ?_)
                    ·
                      refine L.nil ?_
                      refine E.thenN ?_
                      refine W.seq ?_
                      refine W.condT rfl ?_
                      refine W.skip ?_
                      refine E.thenN ?_
                      refine W.seq ?_
                      refine W.block ?_
                      refine W.seq ?_
                      refine W.region ?_
                      refine L.y rfl (Y.move rfl) ?_
                      refine L.y rfl (Y.assign rfl) ?_
                      refine L.nil ?_
                      refine E.thenN ?_
                      refine W.region ?_
                      refine L.y rfl (Y.move rfl) ?_
                      refine L.y rfl (Y.move rfl) ?_
                      refine L.m (V := fun _ => pt b2 (0 + gx14.toNat * 1)) h rfl (Y.indexAM (l := gl15) Try.underlying165 sz24 rfl rfl) (fun x9 ex9 h => ?_)
                      refine L.y rfl (Y.loadZ (q := 1) (row := svRow) (vs := gq16) (j := 0) (pv := gv (gq16 gx14.toNat) 0) ag24 rfl rfl rfl (fun _ _ => rfl) (idxA_idx ex9) rfl) ?_
                      refine L.y rfl (Y.func rfl) ?_
                      refine L.ssOut (sds := (svSd 3 1 I)) (vs := gq16) (s := 2) (j := 0) (c := 1) rfl (fun _ _ => rfl) (idxA_idx ex9) rfl ?_
                      refine L.callJ (fun v D => ∃ (gv17 : Value) (gl18 : (List Int)), v = gv17 ∧ D = Cls w [] [.obj b6 [.int .i64 x5.Tx, .int .i64 x5.Kind, .int .i64 x5.Item] 164, .obj b2 (zr svRow gq16 gl15).flatten 165, .ss ((zs (svSd 3 1 I) gq16 gl15).set (gx14.toNat * 1 + 0) (Sd.nil 0 0)), .obj b1 [u0] 71, .sl gv3 81 2 (gl4.map TSeen.row), .sl gv17 3 1 (gl18.map I)] ∧ m52_see_Reads_K6 gl15 gx14 go2 gl18 = some r) rfl en108 rfl Try.func108 rfl rfl rfl ?_ ?_
                      ·
                        refine W.seq ?_
                        refine W.region ?_
                        refine L.y rfl (Y.assign rfl) ?_
                        refine L.nil ?_
                        refine E.thenN ?_
                        refine W.seq ?_
                        refine W.region ?_
                        refine L.y rfl (Y.move rfl) ?_
                        refine L.y rfl (Y.move rfl) ?_
                        refine L.callJ (fun v D => ∃ (gx19 : Int), v = .int .i64 gx19 ∧ D = Cls w [] [.obj b6 [.int .i64 x5.Tx, .int .i64 x5.Kind, .int .i64 x5.Item] 164, .obj b2 (zr svRow gq16 gl15).flatten 165, .ss ((zs (svSd 3 1 I) gq16 gl15).set (gx14.toNat * 1 + 0) (Sd.nil 0 0)), .obj b1 [u0] 71, .sl (gv (gq16 gx14.toNat) 0) 3 1 (x9.map I), .sl gv3 81 2 (gl4.map TSeen.row)] ∧ m52_see_Reads_K7 gl15 gx14 go2 x9 a0 x5 gx19 = some r) rfl en133 rfl Try.func133 rfl rfl rfl ?_ ?_
                        ·
                          refine W.seq ?_
                          refine W.region ?_
                          refine L.y rfl (Y.assign rfl) ?_
                          refine L.nil ?_
                          refine E.thenN ?_
                          refine W.seqJ (fun gs D => gs = [] ∧ D = Cls w [] [.obj b6 [.int .i64 x5.Tx, .int .i64 x5.Kind, .int .i64 x5.Item] 164, .obj b2 (zr svRow gq16 gl15).flatten 165, .ss ((zs (svSd 3 1 I) gq16 gl15).set (gx14.toNat * 1 + 0) (Sd.nil 0 0)), .obj b1 [u0] 71, .sl (gv (gq16 gx14.toNat) 0) 3 1 (x9.map I), .sl gv3 81 2 (gl4.map TSeen.row)] ∧ m52_see_Reads_K12 gl15 gx14 go2 x9 a0 x5 = some r) ?_ ?_
                          ·
                            refine W.seq ?_
                            refine W.region ?_
                            refine L.y rfl (Y.move rfl) ?_
                            refine L.y rfl (Y.lenM (g := I) (l := x9) Try.underlying24 rfl (fun w hw => As.at_ (hw.get (i := 0) rfl))) ?_
                            refine L.y rfl (Y.move rfl) ?_
                            refine L.nil ?_
                            refine E.thenN ?_
                            refine W.block ?_
                            refine W.loopJ (fun m gs D => ∃ (gx26 : Int), gs = [(0, gv (gq16 gx14.toNat) 0), (1, .func (.func 109) #[] #[pt b1 0, pt b6 0]), (7, .int .i64 (x9.length : Int)), (8, .int .i64 gx26)] ∧ D = Cls w [] [.obj b6 [.int .i64 x5.Tx, .int .i64 x5.Kind, .int .i64 x5.Item] 164, .obj b2 (zr svRow gq16 gl15).flatten 165, .ss ((zs (svSd 3 1 I) gq16 gl15).set (gx14.toNat * 1 + 0) (Sd.nil 0 0)), .obj b1 [u0] 71, .sl (gv (gq16 gx14.toNat) 0) 3 1 (x9.map I), .sl gv3 81 2 (gl4.map TSeen.row)] ∧ m52_see_Reads_L4 x9 a0 gl15 gx14 go2 x5 m gx26 = some r) ⟨0, rfl, rfl, h⟩ ⟨rfl, rfl, rfl, rfl, trivial⟩ (fun _ hw => hw.sel [1, 2, 3, 4, 0, 5] (by decide) rfl) ?_
                            rintro m _ _ ⟨gx26, rfl, rfl, h⟩
                            rcases m with _ | m
                            · rw [m52_see_Reads_L4] at h; cases h
                            rw [m52_see_Reads_L4] at h
                            generalize hg4 : m52_see_Reads_L4 x9 a0 gl15 gx14 go2 x5 m = go4 at h
                            rw [m52_see_Reads_L4B] at h
                            refine W.seq ?_
                            refine W.region ?_
                            refine L.ite h rfl (Y.lss rfl rfl) (fun c28 h => ?_) (fun c28 h => ?_)
                            ·
                              refine L.nil ?_
                              refine E.thenN ?_
                              refine W.seq ?_
                              refine W.condT rfl ?_
                              refine W.skip ?_
                              refine E.thenN ?_
                              refine W.seq ?_
                              refine W.block ?_
                              refine W.seq ?_
                              refine W.region ?_
                              refine L.y rfl (Y.move rfl) ?_
                              refine L.y rfl (Y.assign rfl) ?_
                              refine L.nil ?_
                              refine E.thenN ?_
                              refine W.seq ?_
                              refine W.region ?_
                              refine L.y rfl (Y.move rfl) ?_
                              refine L.y rfl (Y.move rfl) ?_
                              refine L.y rfl (Y.move rfl) ?_
                              refine L.m (V := fun _ => el (gv (gq16 gx14.toNat) 0) (gx26.toNat * 1)) h rfl (Y.indexM (g := I) (l := x9) Try.underlying24 sz3 rfl rfl (fun w hw => As.at_ (hw.get (i := 4) rfl))) (fun x29 ex29 h => ?_)
                              refine L.y rfl (Y.loadE1 (u := .int .i64 x29) ag3 rfl (fun w hw => As.at_ (hw.get (i := 4) rfl)) (idx_map ex29)) ?_
                              refine L.callVJ (fun v D => ∃ (gb27 : Bool), v = .bool gb27 ∧ D = Cls w [] [.obj b6 [.int .i64 x5.Tx, .int .i64 x5.Kind, .int .i64 x5.Item] 164, .obj b2 (zr svRow gq16 gl15).flatten 165, .ss ((zs (svSd 3 1 I) gq16 gl15).set (gx14.toNat * 1 + 0) (Sd.nil 0 0)), .obj b1 [u0] 71, .sl (gv (gq16 gx14.toNat) 0) 3 1 (x9.map I), .sl gv3 81 2 (gl4.map TSeen.row)] ∧ m52_see_Reads_K13 gl15 gx14 go2 x9 a0 x5 gx26 go4 gb27 = some r) rfl en109 rfl rfl Try.func109 rfl rfl rfl ?_ ?_
                              ·
                                refine W.seq ?_
                                refine W.region ?_
                                refine L.y rfl (Y.assign rfl) ?_
                                refine L.nil ?_
                                refine E.thenN ?_
                                refine W.seq ?_
                                refine W.quietC mixed (by kernel_rfl) (fun _ hw => hw.drew) (fun hC => ?_)
                                refine U.y rfl (Y.loadP (i := 3) ag71 rfl rfl rfl) ?_
                                refine U.y rfl (Y.move rfl) ?_
                                refine U.m (V := fun _ => el u0 (x29.toNat * 3)) h rfl (Y.indexM (g := TOp.row) (l := a0) Try.underlying71 sz164 rfl rfl (fun w' hw => hA0.cls0 hw)) (fun x31 ex31 h => ?_)
                                refine U.y rfl (Y.fieldE fd164_0 rfl) ?_
                                refine U.y rfl (Y.loadE (u := .int .i64 x31.Tx) ag3 rfl (fun w' hw => hA0.cls0 hw) (idx_map ex31) rfl) ?_
                                refine U.y rfl (Y.fieldP fd164_0 rfl) ?_
                                refine U.y rfl (Y.loadP (i := 0) ag3 rfl rfl rfl) ?_
                                refine U.y rfl (Y.eql rfl rfl) ?_
                                refine U.y rfl (Y.assign rfl) ?_
                                refine U.nil ?_
                                refine E.thenN ?_
                                refine W.ret ?_
                                refine E.ret1 rfl rfl (fun w1 hw => ?_)
                                exact ⟨_, _, rfl, ⟨decide (x31.Tx = x5.Tx), rfl, rfl, h⟩, hw⟩
                              ·
                                rintro _ _ ⟨gb27, rfl, rfl, h⟩
                                rw [m52_see_Reads_K13] at h
                                rcases gb27 with _ | _
                                ·
                                  replace h := iteF h
                                  refine L.nil ?_
                                  refine E.thenN ?_
                                  refine W.condF rfl ?_
                                  refine W.skip ?_
                                  refine E.blockN ?_
                                  refine E.thenN ?_
                                  refine W.region ?_
                                  refine L.m (V := fun x30 => .int .i64 x30) h rfl (Y.addM rfl rfl) (fun x30 ex30 h => ?_)
                                  refine L.y rfl (Y.move rfl) ?_
                                  refine L.nil ?_
                                  exact E.againJ ⟨x30, rfl, rfl, by rw [hg4]; exact h⟩ (Nat.lt_succ_self _) ⟨rfl, rfl, rfl, rfl, trivial⟩ (fun _ hw => hw)
                                ·
                                  replace h := iteT h
                                  refine L.nil ?_
                                  refine E.thenN ?_
                                  refine W.condT rfl ?_
                                  refine W.seq ?_
                                  refine W.region ?_
                                  refine L.y rfl (Y.move rfl) ?_
                                  refine L.y rfl (Y.assign rfl) ?_
                                  refine L.nil ?_
                                  refine E.thenN ?_
                                  refine W.ret ?_
                                  refine E.blockR ?_
                                  refine E.thenR ?_
                                  refine E.KLR ?_
                                  refine E.blockR ?_
                                  refine E.KSR ?_
                                  refine E.ret1 rfl rfl (fun w1 hw => ?_)
                                  exact ⟨_, _, rfl, ⟨gx26, rfl, rfl, h⟩, hw⟩
                            ·
                              refine L.nil ?_
                              refine E.thenN ?_
                              refine W.seq ?_
                              refine W.condF rfl ?_
                              refine W.exit ?_
                              refine E.thenX ?_
                              refine E.KLX ?_
                              refine E.blockX ?_
                              exact E.joinJ ⟨rfl, rfl, h⟩ trivial (fun _ hw => hw)
                          ·
                            rintro _ _ ⟨rfl, rfl, h⟩
                            rw [m52_see_Reads_K12] at h
                            refine W.seq ?_
                            refine W.region ?_
                            refine L.y rfl (Y.assign rfl) ?_
                            refine L.nil ?_
                            refine E.thenN ?_
                            refine W.ret ?_
                            refine E.ret1 rfl rfl (fun w1 hw => ?_)
                            exact ⟨_, _, rfl, ⟨(-1), rfl, rfl, h⟩, hw⟩
                        ·
                          rintro _ _ ⟨gx19, rfl, rfl, h⟩
                          rw [m52_see_Reads_K7] at h
                          refine L.y rfl (Y.assign rfl) ?_
                          refine L.nil ?_
                          refine E.thenN ?_
                          refine W.seqJ (fun gs D => gs = [(0, gv (gq16 gx14.toNat) 0), (1, .func (.func 109) #[] #[pt b1 0, pt b6 0]), (5, .int .i64 gx19)] ∧ D = Cls w [] [.obj b6 [.int .i64 x5.Tx, .int .i64 x5.Kind, .int .i64 x5.Item] 164, .obj b2 (zr svRow gq16 gl15).flatten 165, .ss ((zs (svSd 3 1 I) gq16 gl15).set (gx14.toNat * 1 + 0) (Sd.nil 0 0)), .obj b1 [u0] 71, .sl (gv (gq16 gx14.toNat) 0) 3 1 (x9.map I), .sl gv3 81 2 (gl4.map TSeen.row)] ∧ m52_see_Reads_K8 gx19 a0 x5 gl15 gx14 go2 x9 = some r) ?_ ?_
                          ·
                            refine W.seq ?_
                            refine W.region ?_
                            refine L.y rfl (Y.move rfl) ?_
                            refine L.ite h rfl (Y.eql rfl rfl) (fun c27 h => ?_) (fun c27 h => ?_)
                            ·
                              refine L.nil ?_
                              refine E.thenN ?_
                              refine W.condT rfl ?_
                              refine W.seq ?_
                              refine W.region ?_
                              refine L.y rfl (Y.move rfl) ?_
                              refine L.y rfl (Y.assign rfl) ?_
                              refine L.nil ?_
                              refine E.thenN ?_
                              refine W.ret ?_
                              refine E.KSR ?_
                              refine E.ret1 rfl rfl (fun w1 hw => ?_)
                              exact ⟨_, _, rfl, ⟨gv (gq16 gx14.toNat) 0, x9, rfl, rfl, h⟩, hw.sel [0, 1, 2, 3, 5, 4] (by decide) rfl⟩
                            ·
                              refine L.nil ?_
                              refine E.thenN ?_
                              refine W.condF rfl ?_
                              refine W.skip ?_
                              exact E.joinJ ⟨rfl, rfl, h⟩ ⟨rfl, rfl, rfl, trivial⟩ (fun _ hw => hw)
                          ·
                            rintro _ _ ⟨rfl, rfl, h⟩
                            rw [m52_see_Reads_K8] at h
                            refine W.seqJ (fun gs D => ∃ (gl20 : (List Int)) (gx21 : Int), gs = [(0, gv (gq16 gx14.toNat) 0), (5, .int .i64 gx21)] ∧ D = Cls w [] [.obj b6 [.int .i64 x5.Tx, .int .i64 x5.Kind, .int .i64 x5.Item] 164, .obj b2 (zr svRow gq16 gl15).flatten 165, .ss ((zs (svSd 3 1 I) gq16 gl15).set (gx14.toNat * 1 + 0) (Sd.nil 0 0)), .obj b1 [u0] 71, .sl (gv (gq16 gx14.toNat) 0) 3 1 (gl20.map I), .sl gv3 81 2 (gl4.map TSeen.row)] ∧ m52_see_Reads_K9 gl15 gx14 go2 gl20 gx21 = some r) ?_ ?_
                            ·
                              refine W.seq ?_
                              refine W.region ?_
                              refine L.y rfl (Y.move rfl) ?_
                              refine L.m (V := fun x18 => .int .i64 x18) h rfl (Y.addM rfl rfl) (fun x18 ex18 h => ?_)
                              refine L.y rfl (Y.assign rfl) ?_
                              refine L.nil ?_
                              refine E.thenN ?_
                              refine W.block ?_
                              refine W.loopJ (fun m gs D => ∃ (gl22 : (List Int)) (gx23 : Int) (gx24 : Int), gs = [(0, gv (gq16 gx14.toNat) 0), (1, .func (.func 109) #[] #[pt b1 0, pt b6 0]), (5, .int .i64 gx23), (6, .int .i64 gx24)] ∧ D = Cls w [] [.obj b6 [.int .i64 x5.Tx, .int .i64 x5.Kind, .int .i64 x5.Item] 164, .obj b2 (zr svRow gq16 gl15).flatten 165, .ss ((zs (svSd 3 1 I) gq16 gl15).set (gx14.toNat * 1 + 0) (Sd.nil 0 0)), .obj b1 [u0] 71, .sl (gv (gq16 gx14.toNat) 0) 3 1 (gl22.map I), .sl gv3 81 2 (gl4.map TSeen.row)] ∧ m52_see_Reads_L3 a0 x5 gl15 gx14 go2 m gl22 gx23 gx24 = some r) ⟨x9, gx19, x18, rfl, rfl, h⟩ ⟨rfl, rfl, rfl, rfl, trivial⟩ (fun _ hw => hw) ?_
                              rintro m _ _ ⟨gl22, gx23, gx24, rfl, rfl, h⟩
                              rcases m with _ | m
                              · rw [m52_see_Reads_L3] at h; cases h
                              rw [m52_see_Reads_L3] at h
                              generalize hg3 : m52_see_Reads_L3 a0 x5 gl15 gx14 go2 m = go3 at h
                              rw [m52_see_Reads_L3B] at h
                              refine W.seqJ (fun gs D => gs = [(0, gv (gq16 gx14.toNat) 0), (1, .func (.func 109) #[] #[pt b1 0, pt b6 0]), (5, .int .i64 gx23), (6, .int .i64 gx24)] ∧ D = Cls w [] [.obj b6 [.int .i64 x5.Tx, .int .i64 x5.Kind, .int .i64 x5.Item] 164, .obj b2 (zr svRow gq16 gl15).flatten 165, .ss ((zs (svSd 3 1 I) gq16 gl15).set (gx14.toNat * 1 + 0) (Sd.nil 0 0)), .obj b1 [u0] 71, .sl (gv (gq16 gx14.toNat) 0) 3 1 (gl22.map I), .sl gv3 81 2 (gl4.map TSeen.row)] ∧ m52_see_Reads_K10 gl22 gx24 a0 go3 gx23 x5 = some r) ?_ ?_
                              ·
                                refine W.seq ?_
                                refine W.region ?_
                                refine L.y rfl (Y.move rfl) ?_
                                refine L.y rfl (Y.move rfl) ?_
                                refine L.y rfl (Y.lenM (g := I) (l := gl22) Try.underlying24 rfl (fun w hw => As.at_ (hw.get (i := 4) rfl))) ?_
                                refine L.ite h rfl (Y.lss rfl rfl) (fun c26 h => ?_) (fun c26 h => ?_)
                                ·
                                  refine L.nil ?_
                                  refine E.thenN ?_
                                  refine W.condT rfl ?_
                                  refine W.skip ?_
                                  exact E.joinJ ⟨rfl, rfl, h⟩ ⟨rfl, rfl, rfl, rfl, trivial⟩ (fun _ hw => hw)
                                ·
                                  refine L.nil ?_
                                  refine E.thenN ?_
                                  refine W.condF rfl ?_
                                  refine W.exit ?_
                                  refine E.KSX ?_
                                  refine E.KLX ?_
                                  refine E.blockX ?_
                                  exact E.joinJ ⟨gl22, gx23, rfl, rfl, h⟩ ⟨rfl, rfl, trivial⟩ (fun _ hw => hw)
                              ·
                                rintro _ _ ⟨rfl, rfl, h⟩
                                rw [m52_see_Reads_K10] at h
                                refine W.seq ?_
                                refine W.block ?_
                                refine W.seq ?_
                                refine W.region ?_
                                refine L.y rfl (Y.move rfl) ?_
                                refine L.y rfl (Y.move rfl) ?_
                                refine L.m (V := fun _ => el (gv (gq16 gx14.toNat) 0) (gx24.toNat * 1)) h rfl (Y.indexM (g := I) (l := gl22) Try.underlying24 sz3 rfl rfl (fun w hw => As.at_ (hw.get (i := 4) rfl))) (fun x19 ex19 h => ?_)
                                refine L.y rfl (Y.loadE1 (u := .int .i64 x19) ag3 rfl (fun w hw => As.at_ (hw.get (i := 4) rfl)) (idx_map ex19)) ?_
                                refine L.y rfl (Y.assign rfl) ?_
                                refine L.nil ?_
                                refine E.thenN ?_
                                refine W.seq ?_
                                refine W.region ?_
                                refine L.y rfl (Y.move rfl) ?_
                                refine L.y rfl (Y.move rfl) ?_
                                refine L.callVJ (fun v D => ∃ (gb25 : Bool), v = .bool gb25 ∧ D = Cls w [] [.obj b6 [.int .i64 x5.Tx, .int .i64 x5.Kind, .int .i64 x5.Item] 164, .obj b2 (zr svRow gq16 gl15).flatten 165, .ss ((zs (svSd 3 1 I) gq16 gl15).set (gx14.toNat * 1 + 0) (Sd.nil 0 0)), .obj b1 [u0] 71, .sl (gv (gq16 gx14.toNat) 0) 3 1 (gl22.map I), .sl gv3 81 2 (gl4.map TSeen.row)] ∧ m52_see_Reads_K11 gx24 go3 gl22 gx23 x19 gb25 = some r) rfl en109 rfl rfl Try.func109 rfl rfl rfl ?_ ?_
                                ·
                                  refine W.seq ?_
                                  refine W.region ?_
                                  refine L.y rfl (Y.assign rfl) ?_
                                  refine L.nil ?_
                                  refine E.thenN ?_
                                  refine W.seq ?_
                                  refine W.quietC mixed (by kernel_rfl) (fun _ hw => hw.drew) (fun hC => ?_)
                                  refine U.y rfl (Y.loadP (i := 3) ag71 rfl rfl rfl) ?_
                                  refine U.y rfl (Y.move rfl) ?_
                                  refine U.m (V := fun _ => el u0 (x19.toNat * 3)) h rfl (Y.indexM (g := TOp.row) (l := a0) Try.underlying71 sz164 rfl rfl (fun w' hw => hA0.cls0 hw)) (fun x25 ex25 h => ?_)
                                  refine U.y rfl (Y.fieldE fd164_0 rfl) ?_
                                  refine U.y rfl (Y.loadE (u := .int .i64 x25.Tx) ag3 rfl (fun w' hw => hA0.cls0 hw) (idx_map ex25) rfl) ?_
                                  refine U.y rfl (Y.fieldP fd164_0 rfl) ?_
                                  refine U.y rfl (Y.loadP (i := 0) ag3 rfl rfl rfl) ?_
                                  refine U.y rfl (Y.eql rfl rfl) ?_
                                  refine U.y rfl (Y.assign rfl) ?_
                                  refine U.nil ?_
                                  refine E.thenN ?_
                                  refine W.ret ?_
                                  refine E.ret1 rfl rfl (fun w1 hw => ?_)
                                  exact ⟨_, _, rfl, ⟨decide (x25.Tx = x5.Tx), rfl, rfl, h⟩, hw⟩
                                ·
                                  rintro _ _ ⟨gb25, rfl, rfl, h⟩
                                  rw [m52_see_Reads_K11] at h
                                  rcases gb25 with _ | _
                                  ·
                                    replace h := iteF h
                                    refine L.y rfl (Y.not rfl) ?_
                                    refine L.nil ?_
                                    refine E.thenN ?_
                                    refine W.condT rfl ?_
                                    refine W.seq ?_
                                    refine W.region ?_
                                    refine L.y rfl (Y.move rfl) ?_
                                    refine L.y rfl (Y.move rfl) ?_
                                    refine L.y rfl (Y.move rfl) ?_
                                    refine L.m (V := fun _ => el (gv (gq16 gx14.toNat) 0) (gx23.toNat * 1)) h rfl (Y.indexM (g := I) (l := gl22) Try.underlying24 sz3 rfl rfl (fun w hw => As.at_ (hw.get (i := 4) rfl))) (fun x20 ex20 h => ?_)
                                    refine L.storeSlM (q := 4) (row := I) (vs := [.int .i64 x19]) (j := 0) (u1 := x19) h sz3 rfl rfl rfl rfl rfl (all1 rfl all0) rfl ex20 rfl rfl ?_
                                    intro l21 el21 h
                                    refine L.nil ?_
                                    refine E.thenN ?_
                                    refine W.region ?_
                                    refine L.y rfl (Y.move rfl) ?_
                                    refine L.m (V := fun x22 => .int .i64 x22) h rfl (Y.addM rfl rfl) (fun x22 ex22 h => ?_)
                                    refine L.y rfl (Y.assign rfl) ?_
                                    refine L.nil ?_
                                    refine E.blockN ?_
                                    refine E.thenN ?_
                                    refine W.region ?_
                                    refine L.y rfl (Y.move rfl) ?_
                                    refine L.m (V := fun x23 => .int .i64 x23) h rfl (Y.addM rfl rfl) (fun x23 ex23 h => ?_)
                                    refine L.y rfl (Y.assign rfl) ?_
                                    refine L.nil ?_
                                    exact E.againJ ⟨l21, x22, x23, rfl, rfl, by rw [hg3]; exact h⟩ (Nat.lt_succ_self _) ⟨rfl, rfl, rfl, rfl, trivial⟩ (fun _ hw => hw)
                                  ·
                                    replace h := iteT h
                                    refine L.y rfl (Y.not rfl) ?_
                                    refine L.nil ?_
                                    refine E.thenN ?_
                                    refine W.condF rfl ?_
                                    refine W.skip ?_
                                    refine E.blockN ?_
                                    refine E.thenN ?_
                                    refine W.region ?_
                                    refine L.y rfl (Y.move rfl) ?_
                                    refine L.m (V := fun x24 => .int .i64 x24) h rfl (Y.addM rfl rfl) (fun x24 ex24 h => ?_)
                                    refine L.y rfl (Y.assign rfl) ?_
                                    refine L.nil ?_
                                    exact E.againJ ⟨gl22, gx23, x24, rfl, rfl, by rw [hg3]; exact h⟩ (Nat.lt_succ_self _) ⟨rfl, rfl, rfl, rfl, trivial⟩ (fun _ hw => hw)
                            ·
                              rintro _ _ ⟨gl20, gx21, rfl, rfl, h⟩
                              rw [m52_see_Reads_K9] at h
                              refine W.seq ?_
                              refine W.region ?_
                              refine L.y rfl (Y.move rfl) ?_
                              refine L.y rfl (Y.move rfl) ?_
                              refine L.m (V := fun _ => dropv (gv (gq16 gx14.toNat) 0) gx21.toNat 1) h rfl (Y.dropM (g := I) Try.underlying24 sz3 rfl rfl (fun w hw => As.at_ (hw.get (i := 4) rfl))) (fun l14 el14 h => ?_)
                              refine L.clearM (i := 4) (g := I) (z0 := 0) (a := gx21) h Try.underlying24 el3 ze3 (fun u hu => ((plain_ints _) : Plain ([0].map I)) _ (List.mem_cons_self ..) u hu) rfl rfl ?_
                              intro l15 el15 h
                              refine L.nil ?_
                              refine E.thenN ?_
                              refine W.seq ?_
                              refine W.region ?_
                              refine L.y rfl (Y.move rfl) ?_
                              refine L.y rfl (Y.move rfl) ?_
                              obtain ⟨l16, el16, h⟩ := bind1S h
                              refine L.cutM (i := 4) (g := I) el16 rfl Try.underlying24 sz3 rfl rfl rfl (fun v17 => ?_)
                              refine L.y rfl (Y.assign rfl) ?_
                              refine L.nil ?_
                              refine E.thenN ?_
                              refine W.ret ?_
                              refine E.ret1 rfl rfl (fun w1 hw => ?_)
                              exact ⟨_, _, rfl, ⟨v17, l16, rfl, rfl, h⟩, hw.sel [0, 1, 2, 3, 5, 4] (by decide) rfl⟩
                      ·
                        rintro gv17 _ ⟨_, gl18, rfl, rfl, h⟩
                        rw [m52_see_Reads_K6] at h
                        refine L.m (V := fun _ => pt b2 (0 + gx14.toNat * 1)) h rfl (Y.indexAM (l := gl15) Try.underlying165 sz24 rfl rfl) (fun x10 ex10 h => ?_)
                        refine L.storeZS (row := svRow) (sds := (svSd 3 1 I)) (vs := gq16) (q := 1) (p := 5) (s := 2) (c := 1) (jj := 0) (u1 := gl18) (v1 := [gv17]) (j := 0) h sz24 rfl rfl rfl rfl rfl rfl (.inr rfl) (fun _ _ => rfl) (fun _ _ => rfl) (idxA_idx ex10) rfl rfl rfl rfl ?_
                        intro l11 q12 el11 h
                        refine L.nil ?_
                        refine E.blockN ?_
                        refine E.thenN ?_
                        refine W.region ?_
                        refine L.m (V := fun x13 => .int .i64 x13) h rfl (Y.addM rfl rfl) (fun x13 ex13 h => ?_)
                        refine L.y rfl (Y.move rfl) ?_
                        refine L.nil ?_
                        exact E.againJ ⟨x13, l11, q12, rfl, rfl, by rw [hg2]; exact h⟩ (Nat.lt_succ_self _) ⟨rfl, rfl, rfl, rfl, rfl, rfl, rfl, rfl, trivial⟩ (fun _ hw => hw)
                    ·
                      refine L.nil ?_
                      refine E.thenN ?_
                      refine W.seq ?_
                      refine W.condF rfl ?_
                      refine W.exit ?_
                      refine E.thenX ?_
                      refine E.KLX ?_
                      refine E.blockX ?_
                      refine E.blockN ?_
                      refine E.blockN ?_
                      exact E.joinJ ⟨gv3, gl4, gl15, gq16, rfl, rfl, h⟩ ⟨rfl, rfl, rfl, rfl, rfl, rfl, trivial⟩ (fun _ hw => hw.sel [1, 2, 3, 4] (by decide) rfl)
                  ·
                    refine L.y rfl (Y.assign rfl) ?_
                    refine L.nil ?_
                    refine E.thenN ?_
                    refine W.condF rfl ?_
                    refine W.skip ?_
                    refine E.blockN ?_
                    refine E.blockN ?_
                    exact E.joinJ ⟨gv3, gl4, gl6, gq7, rfl, rfl, h⟩ ⟨rfl, rfl, rfl, rfl, rfl, rfl, trivial⟩ (fun _ hw => hw.sel [1, 2, 3, 4] (by decide) rfl)
                ·
                  replace h := iteT h
                  refine W.condT rfl ?_
                  refine W.drawn (k := 11) (D := Cls w [] [.obj b6 [.int .i64 x5.Tx, .int .i64 x5.Kind, .int .i64 x5.Item] 164, .obj b1 [u0] 71, .sl gv3 81 2 (gl4.map TSeen.row)]) rfl mixed (fun _ hw => hw.drew) (fun _ hw => hw.sel [0, 3, 4] (by decide) rfl) ?_
                  refine V.y (i := 0) (Nx.of (by kernel_rfl) rfl) rfl rfl rfl (Y.fieldP fd164_2 rfl) ?_
                  refine V.y (i := 1) (Nx.of (by kernel_rfl) rfl) rfl rfl rfl (Y.loadP (i := 0) ag3 rfl rfl rfl) ?_
                  refine V.y (i := 2) (Nx.of (by kernel_rfl) rfl) rfl rfl rfl (Y.fieldP fd164_2 rfl) ?_
                  refine V.y (i := 3) (Nx.of (by kernel_rfl) rfl) rfl rfl rfl (Y.loadP (i := 0) ag3 rfl rfl rfl) ?_
                  refine V.y (i := 6) (Nx.of (by kernel_rfl) rfl) rfl rfl rfl (Y.move rfl) ?_
                  refine V.eff2 (i1 := 4) (i2 := 7) (by kernel_rfl) rfl rfl ?_ ?_
                  ·
                    refine L.m (V := fun _ => pt b2 (0 + x5.Item.toNat * 1)) h rfl (Y.indexAM (l := gl6) Try.underlying165 sz24 rfl rfl) (fun x50 ex50 h => ?_)
                    refine L.nil ?_
                    refine E.toV (D' := Cls w [] [.obj b6 [.int .i64 x5.Tx, .int .i64 x5.Kind, .int .i64 x5.Item] 164, .obj b1 [u0] 71, .sl gv3 81 2 (gl4.map TSeen.row)]) (fun _ hw => hw) (fun _ hw => hw.sel [0, 3, 4] (by decide) rfl) ?_
                    refine V.eff2 (i1 := 5) (i2 := 7) (by kernel_rfl) rfl rfl ?_ ?_
                    ·
                      refine L.y rfl (Y.loadZ (q := 1) (row := svRow) (vs := gq7) (j := 0) (pv := gv (gq7 x5.Item.toNat) 0) ag24 rfl rfl rfl (fun _ _ => rfl) (idxA_idx ex50) rfl) ?_
                      refine L.nil ?_
                      refine E.toV (D' := Cls w [] [.obj b6 [.int .i64 x5.Tx, .int .i64 x5.Kind, .int .i64 x5.Item] 164, .obj b1 [u0] 71, .sl gv3 81 2 (gl4.map TSeen.row)]) (fun _ hw => hw) (fun _ hw => hw.sel [0, 3, 4] (by decide) rfl) ?_
                      refine V.eff (i := 7) (by kernel_rfl) rfl ?_
                      refine L.litOne rfl Try.underlying24 el3 rfl rfl ?_
                      intro b51
                      refine L.nil ?_
                      refine E.toV (D' := Cls w [] [.sl (sv b51 1) 3 1 (([gx5]).map I), .obj b6 [.int .i64 x5.Tx, .int .i64 x5.Kind, .int .i64 x5.Item] 164, .obj b1 [u0] 71, .sl gv3 81 2 (gl4.map TSeen.row)]) (fun _ hw => hw.sel [1, 2, 3] (by decide) rfl) (fun _ hw => hw.sel [0, 1, 4, 5] (by decide) rfl) ?_
                      refine V.eff (i := 8) (by kernel_rfl) rfl ?_
                      refine L.ssOut (sds := (svSd 3 1 I)) (vs := gq7) (s := 3) (j := 0) (c := 1) rfl (fun _ _ => rfl) (idxA_idx ex50) rfl ?_
                      refine L.appM (i := 0) (g := I) (l := x50) (more := [gx5]) h rfl Try.underlying24 el3 rfl rfl rfl (fun w hw => As.at_ (hw.get (i := 1) rfl)) (plain_ints _) rfl ?_
                      intro v52 l53 el53 h
                      refine L.nil ?_
                      refine E.toV (D' := Cls w [] [.sl (sv b51 1) 3 1 (([gx5]).map I), .obj b6 [.int .i64 x5.Tx, .int .i64 x5.Kind, .int .i64 x5.Item] 164, .obj b1 [u0] 71, .sl gv3 81 2 (gl4.map TSeen.row)]) (fun _ hw => hw) (fun _ hw => hw.sel [1, 2, 5, 6] (by decide) rfl) ?_
                      refine V.eff (i := 9) (by kernel_rfl) rfl ?_
                      refine L.m (V := fun _ => pt b2 (0 + x5.Item.toNat * 1)) h rfl (Y.indexAM (l := gl6) Try.underlying165 sz24 rfl rfl) (fun x54 ex54 h => ?_)
                      refine L.nil ?_
                      refine E.toV (D' := Cls w [] [.sl (sv b51 1) 3 1 (([gx5]).map I), .obj b6 [.int .i64 x5.Tx, .int .i64 x5.Kind, .int .i64 x5.Item] 164, .obj b1 [u0] 71, .sl gv3 81 2 (gl4.map TSeen.row)]) (fun _ hw => hw) (fun _ hw => hw.sel [1, 2, 5, 6] (by decide) rfl) ?_
                      refine V.eff (i := 10) (by kernel_rfl) rfl ?_
                      refine L.storeZS (row := svRow) (sds := (svSd 3 1 I)) (vs := gq7) (q := 3) (p := 0) (s := 4) (c := 1) (jj := 0) (u1 := l53) (v1 := [v52]) (j := 0) h sz24 rfl rfl rfl rfl rfl rfl (.inr rfl) (fun _ _ => rfl) (fun _ _ => rfl) (idxA_idx ex54) rfl rfl rfl rfl ?_
                      intro l55 q56 el55 h
                      refine L.nil ?_
                      refine E.toV (D' := Cls w [] [.sl (sv b51 1) 3 1 (([gx5]).map I), .obj b6 [.int .i64 x5.Tx, .int .i64 x5.Kind, .int .i64 x5.Item] 164, .obj b1 [u0] 71, .sl gv3 81 2 (gl4.map TSeen.row)]) (fun _ hw => hw) (fun _ hw => hw.sel [0, 1, 4, 5] (by decide) rfl) ?_
                      refine V.done (by kernel_rfl) ?_
                      refine E.blockN ?_
                      refine E.blockN ?_
                      exact E.joinJ ⟨gv3, gl4, l55, q56, rfl, rfl, h⟩ ⟨rfl, rfl, rfl, rfl, rfl, rfl, trivial⟩ (fun _ hw => hw.sel [2, 3, 4, 5] (by decide) rfl)
                    ·
                      refine L.litOne rfl Try.underlying24 el3 rfl rfl ?_
                      intro b57
                      refine L.nil ?_
                      refine E.toV (D' := Cls w [] [.sl (sv b57 1) 3 1 (([gx5]).map I), .obj b6 [.int .i64 x5.Tx, .int .i64 x5.Kind, .int .i64 x5.Item] 164, .obj b1 [u0] 71, .sl gv3 81 2 (gl4.map TSeen.row)]) (fun _ hw => hw.sel [1, 2, 3] (by decide) rfl) (fun _ hw => hw.sel [0, 1, 4, 5] (by decide) rfl) ?_
                      refine V.eff (i := 5) (by kernel_rfl) rfl ?_
                      refine L.y rfl (Y.loadZ (q := 2) (row := svRow) (vs := gq7) (j := 0) (pv := gv (gq7 x5.Item.toNat) 0) ag24 rfl rfl rfl (fun _ _ => rfl) (idxA_idx ex50) rfl) ?_
                      refine L.nil ?_
                      refine E.toV (D' := Cls w [] [.sl (sv b57 1) 3 1 (([gx5]).map I), .obj b6 [.int .i64 x5.Tx, .int .i64 x5.Kind, .int .i64 x5.Item] 164, .obj b1 [u0] 71, .sl gv3 81 2 (gl4.map TSeen.row)]) (fun _ hw => hw) (fun _ hw => hw.sel [0, 1, 4, 5] (by decide) rfl) ?_
                      refine V.eff (i := 8) (by kernel_rfl) rfl ?_
                      refine L.ssOut (sds := (svSd 3 1 I)) (vs := gq7) (s := 3) (j := 0) (c := 1) rfl (fun _ _ => rfl) (idxA_idx ex50) rfl ?_
                      refine L.appM (i := 0) (g := I) (l := x50) (more := [gx5]) h rfl Try.underlying24 el3 rfl rfl rfl (fun w hw => As.at_ (hw.get (i := 1) rfl)) (plain_ints _) rfl ?_
                      intro v58 l59 el59 h
                      refine L.nil ?_
                      refine E.toV (D' := Cls w [] [.sl (sv b57 1) 3 1 (([gx5]).map I), .obj b6 [.int .i64 x5.Tx, .int .i64 x5.Kind, .int .i64 x5.Item] 164, .obj b1 [u0] 71, .sl gv3 81 2 (gl4.map TSeen.row)]) (fun _ hw => hw) (fun _ hw => hw.sel [1, 2, 5, 6] (by decide) rfl) ?_
                      refine V.eff (i := 9) (by kernel_rfl) rfl ?_
                      refine L.m (V := fun _ => pt b2 (0 + x5.Item.toNat * 1)) h rfl (Y.indexAM (l := gl6) Try.underlying165 sz24 rfl rfl) (fun x60 ex60 h => ?_)
                      refine L.nil ?_
                      refine E.toV (D' := Cls w [] [.sl (sv b57 1) 3 1 (([gx5]).map I), .obj b6 [.int .i64 x5.Tx, .int .i64 x5.Kind, .int .i64 x5.Item] 164, .obj b1 [u0] 71, .sl gv3 81 2 (gl4.map TSeen.row)]) (fun _ hw => hw) (fun _ hw => hw.sel [1, 2, 5, 6] (by decide) rfl) ?_
                      refine V.eff (i := 10) (by kernel_rfl) rfl ?_
                      refine L.storeZS (row := svRow) (sds := (svSd 3 1 I)) (vs := gq7) (q := 3) (p := 0) (s := 4) (c := 1) (jj := 0) (u1 := l59) (v1 := [v58]) (j := 0) h sz24 rfl rfl rfl rfl rfl rfl (.inr rfl) (fun _ _ => rfl) (fun _ _ => rfl) (idxA_idx ex60) rfl rfl rfl rfl ?_
                      intro l61 q62 el61 h
                      refine L.nil ?_
                      refine E.toV (D' := Cls w [] [.sl (sv b57 1) 3 1 (([gx5]).map I), .obj b6 [.int .i64 x5.Tx, .int .i64 x5.Kind, .int .i64 x5.Item] 164, .obj b1 [u0] 71, .sl gv3 81 2 (gl4.map TSeen.row)]) (fun _ hw => hw) (fun _ hw => hw.sel [0, 1, 4, 5] (by decide) rfl) ?_
                      refine V.done (by kernel_rfl) ?_
                      refine E.blockN ?_
                      refine E.blockN ?_
                      exact E.joinJ ⟨gv3, gl4, l61, q62, rfl, rfl, h⟩ ⟨rfl, rfl, rfl, rfl, rfl, rfl, trivial⟩ (fun _ hw => hw.sel [2, 3, 4, 5] (by decide) rfl)
                  ·
                    refine L.litOne rfl Try.underlying24 el3 rfl rfl ?_
                    intro b63
                    refine L.nil ?_
                    refine E.toV (D' := Cls w [] [.sl (sv b63 1) 3 1 (([gx5]).map I), .obj b6 [.int .i64 x5.Tx, .int .i64 x5.Kind, .int .i64 x5.Item] 164, .obj b1 [u0] 71, .sl gv3 81 2 (gl4.map TSeen.row)]) (fun _ hw => hw.sel [1, 2, 3] (by decide) rfl) (fun _ hw => hw.sel [0, 1, 4, 5] (by decide) rfl) ?_
                    refine V.eff (i := 4) (by kernel_rfl) rfl ?_
                    refine L.m (V := fun _ => pt b2 (0 + x5.Item.toNat * 1)) h rfl (Y.indexAM (l := gl6) Try.underlying165 sz24 rfl rfl) (fun x64 ex64 h => ?_)
                    refine L.nil ?_
                    refine E.toV (D' := Cls w [] [.sl (sv b63 1) 3 1 (([gx5]).map I), .obj b6 [.int .i64 x5.Tx, .int .i64 x5.Kind, .int .i64 x5.Item] 164, .obj b1 [u0] 71, .sl gv3 81 2 (gl4.map TSeen.row)]) (fun _ hw => hw) (fun _ hw => hw.sel [0, 1, 4, 5] (by decide) rfl) ?_
                    refine V.eff (i := 5) (by kernel_rfl) rfl ?_
                    refine L.y rfl (Y.loadZ (q := 2) (row := svRow) (vs := gq7) (j := 0) (pv := gv (gq7 x5.Item.toNat) 0) ag24 rfl rfl rfl (fun _ _ => rfl) (idxA_idx ex64) rfl) ?_
                    refine L.nil ?_
                    refine E.toV (D' := Cls w [] [.sl (sv b63 1) 3 1 (([gx5]).map I), .obj b6 [.int .i64 x5.Tx, .int .i64 x5.Kind, .int .i64 x5.Item] 164, .obj b1 [u0] 71, .sl gv3 81 2 (gl4.map TSeen.row)]) (fun _ hw => hw) (fun _ hw => hw.sel [0, 1, 4, 5] (by decide) rfl) ?_
                    refine V.eff (i := 8) (by kernel_rfl) rfl ?_
                    refine L.ssOut (sds := (svSd 3 1 I)) (vs := gq7) (s := 3) (j := 0) (c := 1) rfl (fun _ _ => rfl) (idxA_idx ex64) rfl ?_
                    refine L.appM (i := 0) (g := I) (l := x64) (more := [gx5]) h rfl Try.underlying24 el3 rfl rfl rfl (fun w hw => As.at_ (hw.get (i := 1) rfl)) (plain_ints _) rfl ?_
                    intro v65 l66 el66 h
                    refine L.nil ?_
                    refine E.toV (D' := Cls w [] [.sl (sv b63 1) 3 1 (([gx5]).map I), .obj b6 [.int .i64 x5.Tx, .int .i64 x5.Kind, .int .i64 x5.Item] 164, .obj b1 [u0] 71, .sl gv3 81 2 (gl4.map TSeen.row)]) (fun _ hw => hw) (fun _ hw => hw.sel [1, 2, 5, 6] (by decide) rfl) ?_
                    refine V.eff (i := 9) (by kernel_rfl) rfl ?_
                    refine L.m (V := fun _ => pt b2 (0 + x5.Item.toNat * 1)) h rfl (Y.indexAM (l := gl6) Try.underlying165 sz24 rfl rfl) (fun x67 ex67 h => ?_)
                    refine L.nil ?_
                    refine E.toV (D' := Cls w [] [.sl (sv b63 1) 3 1 (([gx5]).map I), .obj b6 [.int .i64 x5.Tx, .int .i64 x5.Kind, .int .i64 x5.Item] 164, .obj b1 [u0] 71, .sl gv3 81 2 (gl4.map TSeen.row)]) (fun _ hw => hw) (fun _ hw => hw.sel [1, 2, 5, 6] (by decide) rfl) ?_
                    refine V.eff (i := 10) (by kernel_rfl) rfl ?_
                    refine L.storeZS (row := svRow) (sds := (svSd 3 1 I)) (vs := gq7) (q := 3) (p := 0) (s := 4) (c := 1) (jj := 0) (u1 := l66) (v1 := [v65]) (j := 0) h sz24 rfl rfl rfl rfl rfl rfl (.inr rfl) (fun _ _ => rfl) (fun _ _ => rfl) (idxA_idx ex67) rfl rfl rfl rfl ?_
                    intro l68 q69 el68 h
                    refine L.nil ?_
                    refine E.toV (D' := Cls w [] [.sl (sv b63 1) 3 1 (([gx5]).map I), .obj b6 [.int .i64 x5.Tx, .int .i64 x5.Kind, .int .i64 x5.Item] 164, .obj b1 [u0] 71, .sl gv3 81 2 (gl4.map TSeen.row)]) (fun _ hw => hw) (fun _ hw => hw.sel [0, 1, 4, 5] (by decide) rfl) ?_
                    refine V.done (by kernel_rfl) ?_
                    refine E.blockN ?_
                    refine E.blockN ?_
                    exact E.joinJ ⟨gv3, gl4, l68, q69, rfl, rfl, h⟩ ⟨rfl, rfl, rfl, rfl, rfl, rfl, trivial⟩ (fun _ hw => hw.sel [2, 3, 4, 5] (by decide) rfl)
            ·
              replace h := iteT h
              refine W.condT rfl ?_
              refine W.seq ?_
              refine W.region ?_
              refine L.y rfl (Y.assign rfl) ?_
              refine L.nil ?_
              refine E.thenN ?_
              refine W.seq ?_
              refine W.seq ?_
              refine W.region ?_
              refine L.y rfl (Y.fieldP fd164_2 rfl) ?_
              refine L.y rfl (Y.loadP (i := 0) ag3 rfl rfl rfl) ?_
              refine L.m (V := fun _ => pt b2 (0 + x5.Item.toNat * 1)) h rfl (Y.indexAM (l := gl6) Try.underlying165 sz24 rfl rfl) (fun x71 ex71 h => ?_)
              refine L.y rfl (Y.loadZ (q := 1) (row := svRow) (vs := gq7) (j := 0) (pv := gv (gq7 x5.Item.toNat) 0) ag24 rfl rfl rfl (fun _ _ => rfl) (idxA_idx ex71) rfl) ?_
              refine L.y rfl (Y.lenM (g := I) (l := x71) Try.underlying24 rfl (fun w hw => As.atZ (sds := (svSd 3 1 I)) (vs := gq7) (j := 0) (hw.get (i := 2) rfl) (fun _ _ => rfl) (idxA_idx ex71) rfl)) ?_
              refine L.y rfl (Y.assign rfl) ?_
              refine L.nil ?_
              refine E.thenN ?_
              refine W.seq ?_
              refine W.region ?_
              refine L.y rfl (Y.move rfl) ?_
              refine L.ite h rfl (Y.gtr rfl rfl) (fun c72 h => ?_) (fun c72 h => ?_)
              ·
                refine L.nil ?_
                refine E.thenN ?_
                refine W.condT rfl ?_
                refine W.region ?_
                refine L.y rfl (Y.fieldP fd164_2 rfl) ?_
                refine L.y rfl (Y.loadP (i := 0) ag3 rfl rfl rfl) ?_
                refine L.m (V := fun _ => pt b2 (0 + x5.Item.toNat * 1)) h rfl (Y.indexAM (l := gl6) Try.underlying165 sz24 rfl rfl) (fun x73 ex73 h => ?_)
                refine L.y rfl (Y.loadZ (q := 1) (row := svRow) (vs := gq7) (j := 0) (pv := gv (gq7 x5.Item.toNat) 0) ag24 rfl rfl rfl (fun _ _ => rfl) (idxA_idx ex73) rfl) ?_
                refine L.y rfl (Y.move rfl) ?_
                refine L.m (V := fun x74 => .int .i64 x74) h rfl (Y.subM rfl rfl) (fun x74 ex74 h => ?_)
                refine L.m (V := fun _ => el (gv (gq7 x5.Item.toNat) 0) (x74.toNat * 1)) h rfl (Y.indexM (g := I) (l := x73) Try.underlying24 sz3 rfl rfl (fun w hw => As.atZ (sds := (svSd 3 1 I)) (vs := gq7) (j := 0) (hw.get (i := 2) rfl) (fun _ _ => rfl) (idxA_idx ex73) rfl)) (fun x75 ex75 h => ?_)
                refine L.y rfl (Y.loadE1 (u := .int .i64 x75) ag3 rfl (fun w hw => As.atZ (sds := (svSd 3 1 I)) (vs := gq7) (j := 0) (hw.get (i := 2) rfl) (fun _ _ => rfl) (idxA_idx ex73) rfl) (idx_map ex75)) ?_
                refine L.y rfl (Y.assign rfl) ?_
                refine L.nil ?_
                refine E.thenN ?_
                refine W.region ?_
                refine L.y rfl (Y.move rfl) ?_
                refine L.y rfl (Y.move rfl) ?_
                refine L.y rfl (Y.move rfl) ?_
                refine L.y rfl (Y.build (cells := #[.int .i64 gx5, .int .i64 x75]) rfl (by kernel_rfl)) ?_
                refine L.litAgg rfl Try.underlying73 el81 rfl rfl rfl ?_
                intro b76
                refine L.appM (i := 5) (g := TSeen.row) (l := gl4) (more := [(⟨gx5, x75⟩ : TSeen)]) h rfl Try.underlying73 el81 rfl rfl rfl (fun w hw => As.at_ (hw.get (i := 0) rfl)) (plain_TSeen _) rfl ?_
                intro v77 l78 el78 h
                refine L.y rfl (Y.assign rfl) ?_
                refine L.nil ?_
                refine E.blockN ?_
                refine E.blockN ?_
                exact E.joinJ ⟨v77, l78, gl6, gq7, rfl, rfl, h⟩ ⟨rfl, rfl, rfl, rfl, rfl, rfl, trivial⟩ (fun _ hw => hw.sel [3, 4, 5, 0] (by decide) rfl)
              ·
                refine L.nil ?_
                refine E.thenN ?_
                refine W.condF rfl ?_
                refine W.skip ?_
                refine E.thenN ?_
                refine W.region ?_
                refine L.y rfl (Y.move rfl) ?_
                refine L.y rfl (Y.move rfl) ?_
                refine L.y rfl (Y.move rfl) ?_
                refine L.y rfl (Y.build (cells := #[.int .i64 gx5, .int .i64 (-1)]) rfl (by kernel_rfl)) ?_
                refine L.litAgg rfl Try.underlying73 el81 rfl rfl rfl ?_
                intro b79
                refine L.appM (i := 5) (g := TSeen.row) (l := gl4) (more := [(⟨gx5, (-1)⟩ : TSeen)]) h rfl Try.underlying73 el81 rfl rfl rfl (fun w hw => As.at_ (hw.get (i := 0) rfl)) (plain_TSeen _) rfl ?_
                intro v80 l81 el81 h
                refine L.y rfl (Y.assign rfl) ?_
                refine L.nil ?_
                refine E.blockN ?_
                refine E.blockN ?_
                exact E.joinJ ⟨v80, l81, gl6, gq7, rfl, rfl, h⟩ ⟨rfl, rfl, rfl, rfl, rfl, rfl, trivial⟩ (fun _ hw => hw.sel [3, 4, 5, 0] (by decide) rfl)
        ·
          rintro _ _ ⟨gv8, gl9, gl10, gq11, rfl, rfl, h⟩
          rw [m52_see_Reads_K3] at h
          refine W.region ?_
          refine L.m (V := fun x4 => .int .i64 x4) h rfl (Y.addM rfl rfl) (fun x4 ex4 h => ?_)
          refine L.y rfl (Y.move rfl) ?_
          refine L.nil ?_
          exact E.againJ ⟨gv8, gl9, x4, gl10, gq11, rfl, rfl, by rw [hg1]; exact h⟩ (Nat.lt_succ_self _) ⟨rfl, rfl, rfl, rfl, rfl, rfl, trivial⟩ (fun _ hw => hw)
      ·
        refine L.nil ?_
        refine E.thenN ?_
        refine W.seq ?_
        refine W.condF rfl ?_
        refine W.exit ?_
        refine E.thenX ?_
        refine E.KLX ?_
        refine E.blockX ?_
        exact E.joinJ ⟨gv3, gl4, rfl, rfl, h⟩ ⟨rfl, trivial⟩ (fun _ hw => hw.sel [3] (by decide) rfl)
    ·
      rintro _ _ ⟨gv1, gl2, rfl, rfl, h⟩
      rw [m52_see_Reads_K2] at h
      refine W.seq ?_
      refine W.region ?_
      refine L.y rfl (Y.move rfl) ?_
      refine L.y rfl (Y.assign rfl) ?_
      refine L.y rfl (Y.assign rfl) ?_
      refine L.nil ?_
      refine E.thenN ?_
      refine W.ret ?_
      refine E.ret2 rfl rfl rfl (fun w1 hw => ?_)
      obtain rfl := Option.some.inj h
      exact ⟨_, _, rfl, ⟨_, rfl, rfl⟩, hw⟩
set_option maxRecDepth 100000 in
set_option maxHeartbeats 8000000 in
theorem w53_see_Last (a0 : (List TOp)) (u0 : Value) (w : World) (r : ((List Int) × Int)) (h : m53_see_Last a0 = some r) (hA0 : At w u0 3 (a0.map TOp.row)) : Does Try.prog 53 [u0] w fun u m => u = .tuple #[.agg (r.1.map I).flatten.toArray, .int .i64 r.2] ∧ m = [] := by
  rw [m53_see_Last] at h
  refine body (n := 60) Try.func53 rfl rfl rfl (Cls.refl w) ?_
  refine W.seq ?_
  refine W.region ?_
  refine L.alloc rfl ze76 ?_
  intro b1
  refine L.to (D := Cls w [] [.obj b1 (((List.replicate 20 (0 : Int)).map I).flatten) 76]) (fun _ hw => by first | exact hw | simpa [I, B, SR] using hw) ?_
  refine L.y rfl (Y.assign rfl) ?_
  refine L.nil ?_
  refine E.thenN ?_
  refine W.seq ?_
  refine W.region ?_
  refine L.alloc rfl ze76 ?_
  intro b2
  refine L.to (D := Cls w [] [.obj b2 (((List.replicate 20 (0 : Int)).map I).flatten) 76, .obj b1 (((List.replicate 20 (0 : Int)).map I).flatten) 76]) (fun _ hw => by first | exact hw | simpa [I, B, SR] using hw) ?_
  refine L.nil ?_
  refine E.thenN ?_
  refine W.seqJ (fun gs D => gs = [(0, u0), (2, pt b1 0), (4, pt b2 0)] ∧ D = Cls w [] [.obj b2 (((List.replicate 20 (0 : Int)).map I).flatten) 76, .obj b1 (((List.replicate 20 (0 : Int)).map I).flatten) 76] ∧ m53_see_Last_K1 a0 = some r) ?_ ?_
  ·
    refine W.seq ?_
    refine W.region ?_
    refine L.y rfl (Y.move rfl) ?_
    obtain ⟨x31, e32, h⟩ := bind1S h
    refine L.y rfl (Y.does en107 rfl (fun w' hw => (w107_run_Check a0 u0 w' _ e32 (hA0.cls0 hw)).mono (fun _ _ h => h.1))) ?_
    refine L.y rfl (Y.assign rfl) ?_
    refine L.nil ?_
    refine E.thenN ?_
    refine W.seq ?_
    refine W.region ?_
    refine L.y rfl (Y.move rfl) ?_
    refine L.ite h rfl (Y.neq rfl rfl) (fun c33 h => ?_) (fun c33 h => ?_)
    ·
      refine L.nil ?_
      refine E.thenN ?_
      refine W.condT rfl ?_
      refine W.seq ?_
      refine W.region ?_
      obtain ⟨_, en34, h⟩ := bind1S h
      obtain ⟨_, en34⟩ := arrN_some en34
      refine L.y rfl (Y.loadArAll (q := 0) (row := I) ag76 sz76 rfl rfl (fun _ => rfl) (by rw [en34])) ?_
      refine L.y rfl (Y.move rfl) ?_
      obtain ⟨_, en35, h⟩ := bind1S h
      obtain ⟨_, en35⟩ := arrN_some en35
      obtain ⟨_, en36, h⟩ := bind1S h
      obtain ⟨_, en36⟩ := arrN_some en36
      refine L.storeArW (i := 1) (row := I) en35 en36 rfl (fun _ => rfl) (plain_ints _) sz76 rfl rfl rfl ?_
      refine L.y rfl (Y.assign rfl) ?_
      refine L.nil ?_
      refine E.thenN ?_
      refine W.ret ?_
      refine E.KSR ?_
      obtain ⟨_, en37, h⟩ := bind1S h
      obtain ⟨_, en37⟩ := arrN_some en37
      refine E.retR2 rfl (Rv.cellAr (i := 1) (row := I) ag76 sz76 rfl rfl (fun _ => rfl) (by rw [en37])) (Rv.tmp rfl) (fun w1 hw => ?_)
      obtain rfl := Option.some.inj h
      exact ⟨_, _, rfl, ⟨rfl, rfl⟩, hw.sel [] (by decide) rfl⟩
    ·
      refine L.nil ?_
      refine E.thenN ?_
      refine W.condF rfl ?_
      refine W.skip ?_
      exact E.joinJ ⟨rfl, rfl, h⟩ ⟨rfl, rfl, rfl, trivial⟩ (fun _ hw => hw)
  ·
    rintro _ _ ⟨rfl, rfl, h⟩
    rw [m53_see_Last_K1] at h
    refine W.seq ?_
    refine W.region ?_
    refine L.alloc rfl ze167 ?_
    intro b3
    refine L.to (D := Cls w [] [.obj b3 (((List.replicate 12 (false : Bool)).map B).flatten) 167, .obj b2 (((List.replicate 20 (0 : Int)).map I).flatten) 76, .obj b1 (((List.replicate 20 (0 : Int)).map I).flatten) 76]) (fun _ hw => by first | exact hw | simpa [I, B, SR] using hw) ?_
    refine L.nil ?_
    refine E.thenN ?_
    refine W.seqJ (fun gs D => ∃ (gl1 : (List Bool)), gs = [(0, u0), (2, pt b1 0), (4, pt b2 0), (6, pt b3 0)] ∧ D = Cls w [] [.obj b3 ((gl1.map B).flatten) 167, .obj b2 (((List.replicate 20 (0 : Int)).map I).flatten) 76, .obj b1 (((List.replicate 20 (0 : Int)).map I).flatten) 76] ∧ m53_see_Last_K2 a0 gl1 = some r) ?_ ?_
    ·
      refine W.seq ?_
      refine W.region ?_
      refine L.y rfl (Y.move rfl) ?_
      refine L.y rfl (Y.lenM (g := TOp.row) (l := a0) Try.underlying71 rfl (fun w' hw => hA0.cls0 hw)) ?_
      refine L.y rfl (Y.move rfl) ?_
      refine L.nil ?_
      refine E.thenN ?_
      refine W.block ?_
      refine W.loopJ (fun m gs D => ∃ (gx8 : Int) (gl9 : (List Bool)), gs = [(0, u0), (2, pt b1 0), (4, pt b2 0), (6, pt b3 0), (18, u0), (19, .int .i64 (a0.length : Int)), (20, .int .i64 gx8)] ∧ D = Cls w [] [.obj b3 ((gl9.map B).flatten) 167, .obj b2 (((List.replicate 20 (0 : Int)).map I).flatten) 76, .obj b1 (((List.replicate 20 (0 : Int)).map I).flatten) 76] ∧ m53_see_Last_L3 a0 m gx8 gl9 = some r) ⟨0, (List.replicate 12 (false : Bool)), rfl, rfl, h⟩ ⟨rfl, rfl, rfl, rfl, rfl, rfl, rfl, trivial⟩ (fun _ hw => hw) ?_
      rintro m _ _ ⟨gx8, gl9, rfl, rfl, h⟩
      rcases m with _ | m
      · rw [m53_see_Last_L3] at h; cases h
      rw [m53_see_Last_L3] at h
      generalize hg3 : m53_see_Last_L3 a0 m = go3 at h
      rw [m53_see_Last_L3B] at h
      refine W.seq ?_
      refine W.region ?_
      refine L.ite h rfl (Y.lss rfl rfl) (fun c23 h => ?_) (fun c23 h => ?_)
      ·
        refine L.nil ?_
        refine E.thenN ?_
        refine W.seq ?_
        refine W.condT rfl ?_
        refine W.skip ?_
        refine E.thenN ?_
        refine W.seq ?_
        refine W.block ?_
        refine W.seq ?_
        refine W.region ?_
        refine L.m (V := fun _ => el u0 (gx8.toNat * 3)) h rfl (Y.indexM (g := TOp.row) (l := a0) Try.underlying71 sz164 rfl rfl (fun w' hw => hA0.cls0 hw)) (fun x24 ex24 h => ?_)
        refine L.y rfl (Y.loadEN (r := [.int .i64 x24.Tx, .int .i64 x24.Kind, .int .i64 x24.Item]) ag164 sz164 rfl (fun w' hw => hA0.cls0 hw) (idx_map ex24) rfl) ?_
        refine L.alloc rfl ze164 ?_
        intro b25
        refine L.store (i := 0) sz164 rfl rfl rfl rfl (by simp [Value.oneCell', Value.cells, st]) rfl (Nat.le_of_ble_eq_true rfl) ?_
        refine L.nil ?_
        refine E.thenN ?_
        refine W.seq ?_
        refine W.region ?_
        refine L.y rfl (Y.fieldP fd164_1 rfl) ?_
        refine L.y rfl (Y.loadP (i := 0) ag3 rfl rfl rfl) ?_
        refine L.ite h rfl (Y.eql rfl rfl) (fun c26 h => ?_) (fun c26 h => ?_)
        ·
          refine L.nil ?_
          refine E.thenN ?_
          refine W.condT rfl ?_
          refine W.region ?_
          refine L.y rfl (Y.fieldP fd164_0 rfl) ?_
          refine L.y rfl (Y.loadP (i := 0) ag3 rfl rfl rfl) ?_
          refine L.m (V := fun _ => pt b3 (0 + x24.Tx.toNat * 1)) h rfl (Y.indexAM (l := gl9) Try.underlying167 sz4 rfl rfl) (fun x27 ex27 h => ?_)
          refine L.storeArM (q := 1) (row := B) (vs := [.bool true]) (j := 0) (u1 := true) h sz4 rfl rfl rfl rfl rfl (all1 rfl all0) rfl (fun _ => rfl) (idxA_idx ex27) rfl rfl ?_
          intro l28 el28 h
          refine L.nil ?_
          refine E.blockN ?_
          refine E.thenN ?_
          refine W.region ?_
          refine L.m (V := fun x29 => .int .i64 x29) h rfl (Y.addM rfl rfl) (fun x29 ex29 h => ?_)
          refine L.y rfl (Y.move rfl) ?_
          refine L.nil ?_
          exact E.againJ ⟨x29, l28, rfl, rfl, by rw [hg3]; exact h⟩ (Nat.lt_succ_self _) ⟨rfl, rfl, rfl, rfl, rfl, rfl, rfl, trivial⟩ (fun _ hw => hw.sel [1, 2, 3] (by decide) rfl)
        ·
          refine L.nil ?_
          refine E.thenN ?_
          refine W.condF rfl ?_
          refine W.skip ?_
          refine E.blockN ?_
          refine E.thenN ?_
          refine W.region ?_
          refine L.m (V := fun x30 => .int .i64 x30) h rfl (Y.addM rfl rfl) (fun x30 ex30 h => ?_)
          refine L.y rfl (Y.move rfl) ?_
          refine L.nil ?_
          exact E.againJ ⟨x30, gl9, rfl, rfl, by rw [hg3]; exact h⟩ (Nat.lt_succ_self _) ⟨rfl, rfl, rfl, rfl, rfl, rfl, rfl, trivial⟩ (fun _ hw => hw.sel [1, 2, 3] (by decide) rfl)
      ·
        refine L.nil ?_
        refine E.thenN ?_
        refine W.seq ?_
        refine W.condF rfl ?_
        refine W.exit ?_
        refine E.thenX ?_
        refine E.KLX ?_
        refine E.blockX ?_
        exact E.joinJ ⟨gl9, rfl, rfl, h⟩ ⟨rfl, rfl, rfl, rfl, trivial⟩ (fun _ hw => hw)
    ·
      rintro _ _ ⟨gl1, rfl, rfl, h⟩
      rw [m53_see_Last_K2] at h
      refine W.seqJ (fun gs D => ∃ (gl2 : (List Int)), gs = [(0, u0), (2, pt b1 0), (4, pt b2 0), (6, pt b3 0)] ∧ D = Cls w [] [.obj b3 ((gl1.map B).flatten) 167, .obj b2 ((gl2.map I).flatten) 76, .obj b1 (((List.replicate 20 (0 : Int)).map I).flatten) 76] ∧ m53_see_Last_K3 a0 gl1 gl2 = some r) ?_ ?_
      ·
        refine W.seq ?_
        refine W.region ?_
        refine L.y rfl (Y.move rfl) ?_
        refine L.nil ?_
        refine E.thenN ?_
        refine W.block ?_
        refine W.loopJ (fun m gs D => ∃ (gx6 : Int) (gl7 : (List Int)), gs = [(0, u0), (2, pt b1 0), (4, pt b2 0), (6, pt b3 0), (31, .int .i64 gx6)] ∧ D = Cls w [] [.obj b3 ((gl1.map B).flatten) 167, .obj b2 ((gl7.map I).flatten) 76, .obj b1 (((List.replicate 20 (0 : Int)).map I).flatten) 76] ∧ m53_see_Last_L2 a0 gl1 m gx6 gl7 = some r) ⟨0, (List.replicate 20 (0 : Int)), rfl, rfl, h⟩ ⟨rfl, rfl, rfl, rfl, rfl, trivial⟩ (fun _ hw => hw) ?_
        rintro m _ _ ⟨gx6, gl7, rfl, rfl, h⟩
        rcases m with _ | m
        · rw [m53_see_Last_L2] at h; cases h
        rw [m53_see_Last_L2] at h
        generalize hg2 : m53_see_Last_L2 a0 gl1 m = go2 at h
        rw [m53_see_Last_L2B] at h
        refine W.seq ?_
        refine W.region ?_
        refine L.ite h rfl (Y.lss rfl rfl) (fun c19 h => ?_) (fun c19 h => ?_)
        ·
          refine L.nil ?_
          refine E.thenN ?_
          refine W.seq ?_
          refine W.condT rfl ?_
          refine W.skip ?_
          refine E.thenN ?_
          refine W.seq ?_
          refine W.block ?_
          refine W.seq ?_
          refine W.region ?_
          refine L.y rfl (Y.move rfl) ?_
          refine L.y rfl (Y.assign rfl) ?_
          refine L.nil ?_
          refine E.thenN ?_
          refine W.region ?_
          refine L.y rfl (Y.move rfl) ?_
          refine L.m (V := fun _ => pt b2 (0 + gx6.toNat * 1)) h rfl (Y.indexAM (l := gl7) Try.underlying76 sz3 rfl rfl) (fun x20 ex20 h => ?_)
          refine L.storeArM (q := 1) (row := I) (vs := [.int .i64 (-1)]) (j := 0) (u1 := (-1)) h sz3 rfl rfl rfl rfl rfl (all1 rfl all0) rfl (fun _ => rfl) (idxA_idx ex20) rfl rfl ?_
          intro l21 el21 h
          refine L.nil ?_
          refine E.blockN ?_
          refine E.thenN ?_
          refine W.region ?_
          refine L.m (V := fun x22 => .int .i64 x22) h rfl (Y.addM rfl rfl) (fun x22 ex22 h => ?_)
          refine L.y rfl (Y.move rfl) ?_
          refine L.nil ?_
          exact E.againJ ⟨x22, l21, rfl, rfl, by rw [hg2]; exact h⟩ (Nat.lt_succ_self _) ⟨rfl, rfl, rfl, rfl, rfl, trivial⟩ (fun _ hw => hw)
        ·
          refine L.nil ?_
          refine E.thenN ?_
          refine W.seq ?_
          refine W.condF rfl ?_
          refine W.exit ?_
          refine E.thenX ?_
          refine E.KLX ?_
          refine E.blockX ?_
          exact E.joinJ ⟨gl7, rfl, rfl, h⟩ ⟨rfl, rfl, rfl, rfl, trivial⟩ (fun _ hw => hw)
      ·
        rintro _ _ ⟨gl2, rfl, rfl, h⟩
        rw [m53_see_Last_K3] at h
        refine W.seqJ (fun gs D => ∃ (gl3 : (List Int)), gs = [(2, pt b1 0), (4, pt b2 0)] ∧ D = Cls w [] [.obj b2 ((gl3.map I).flatten) 76, .obj b1 (((List.replicate 20 (0 : Int)).map I).flatten) 76] ∧ m53_see_Last_K4 gl3 = some r) ?_ ?_
        ·
          refine W.seq ?_
          refine W.region ?_
          refine L.y rfl (Y.move rfl) ?_
          refine L.y rfl (Y.lenM (g := TOp.row) (l := a0) Try.underlying71 rfl (fun w' hw => hA0.cls0 hw)) ?_
          refine L.y rfl (Y.move rfl) ?_
          refine L.nil ?_
          refine E.thenN ?_
          refine W.block ?_
          refine W.loopJ (fun m gs D => ∃ (gx4 : Int) (gl5 : (List Int)), gs = [(2, pt b1 0), (4, pt b2 0), (6, pt b3 0), (37, u0), (38, .int .i64 (a0.length : Int)), (39, .int .i64 gx4)] ∧ D = Cls w [] [.obj b3 ((gl1.map B).flatten) 167, .obj b2 ((gl5.map I).flatten) 76, .obj b1 (((List.replicate 20 (0 : Int)).map I).flatten) 76] ∧ m53_see_Last_L1 a0 gl1 m gx4 gl5 = some r) ⟨0, gl2, rfl, rfl, h⟩ ⟨rfl, rfl, rfl, rfl, rfl, rfl, trivial⟩ (fun _ hw => hw) ?_
          rintro m _ _ ⟨gx4, gl5, rfl, rfl, h⟩
          rcases m with _ | m
          · rw [m53_see_Last_L1] at h; cases h
          rw [m53_see_Last_L1] at h
          generalize hg1 : m53_see_Last_L1 a0 gl1 m = go1 at h
          rw [m53_see_Last_L1B] at h
          refine W.seq ?_
          refine W.region ?_
          refine L.ite h rfl (Y.lss rfl rfl) (fun c8 h => ?_) (fun c8 h => ?_)
          ·
            refine L.nil ?_
            refine E.thenN ?_
            refine W.seq ?_
            refine W.condT rfl ?_
            refine W.skip ?_
            refine E.thenN ?_
            refine W.seq ?_
            refine W.block ?_
            refine W.seq ?_
            refine W.region ?_
            refine L.y rfl (Y.move rfl) ?_
            refine L.m (V := fun _ => el u0 (gx4.toNat * 3)) h rfl (Y.indexM (g := TOp.row) (l := a0) Try.underlying71 sz164 rfl rfl (fun w' hw => hA0.cls0 hw)) (fun x9 ex9 h => ?_)
            refine L.y rfl (Y.loadEN (r := [.int .i64 x9.Tx, .int .i64 x9.Kind, .int .i64 x9.Item]) ag164 sz164 rfl (fun w' hw => hA0.cls0 hw) (idx_map ex9) rfl) ?_
            refine L.alloc rfl ze164 ?_
            intro b10
            refine L.y rfl (Y.assign rfl) ?_
            refine L.store (i := 0) sz164 rfl rfl rfl rfl (by simp [Value.oneCell', Value.cells, st]) rfl (Nat.le_of_ble_eq_true rfl) ?_
            refine L.nil ?_
            refine E.thenN ?_
            refine W.seq ?_
            refine W.region ?_
            refine L.y rfl (Y.fieldP fd164_1 rfl) ?_
            refine L.y rfl (Y.loadP (i := 0) ag3 rfl rfl rfl) ?_
            refine L.ite h rfl (Y.eql rfl rfl) (fun c11 h => ?_) (fun c11 h => ?_)
            ·
              refine L.y rfl (Y.move rfl) ?_
              refine L.take rfl ?_
              refine L.y rfl (Y.fieldP fd164_0 rfl) ?_
              refine L.take rfl ?_
              refine L.y rfl (Y.loadP (i := 0) ag3 rfl rfl rfl) ?_
              refine L.take rfl ?_
              refine L.m (V := fun _ => pt b3 (0 + x9.Tx.toNat * 1)) h rfl (Y.indexAM (l := gl1) Try.underlying167 sz4 rfl rfl) (fun x12 ex12 h => ?_)
              refine L.take rfl ?_
              refine L.iteB h rfl (Y.loadAr (q := 1) (row := B) (j := 0) (p := .bool x12) ag4 rfl rfl rfl (fun _ => rfl) (idxA_idx ex12) rfl) (fun c13 h => ?_) (fun c13 h => ?_)
              ·
                refine L.take rfl ?_
                refine L.y rfl (Y.not rfl) ?_
                refine L.y rfl (Y.pickT rfl rfl) ?_
                refine L.nil ?_
                refine E.thenN ?_
                refine W.condF rfl ?_
                refine W.skip ?_
                refine E.blockN ?_
                refine E.thenN ?_
                refine W.region ?_
                refine L.m (V := fun x14 => .int .i64 x14) h rfl (Y.addM rfl rfl) (fun x14 ex14 h => ?_)
                refine L.y rfl (Y.move rfl) ?_
                refine L.nil ?_
                exact E.againJ ⟨x14, gl5, rfl, rfl, by rw [hg1]; exact h⟩ (Nat.lt_succ_self _) ⟨rfl, rfl, rfl, rfl, rfl, rfl, trivial⟩ (fun _ hw => hw.sel [1, 2, 3] (by decide) rfl)
              ·
                refine L.take rfl ?_
                refine L.y rfl (Y.not rfl) ?_
                refine L.y rfl (Y.pickT rfl rfl) ?_
                refine L.nil ?_
                refine E.thenN ?_
                refine W.condT rfl ?_
                refine W.region ?_
                refine L.y rfl (Y.fieldP fd164_2 rfl) ?_
                refine L.y rfl (Y.loadP (i := 0) ag3 rfl rfl rfl) ?_
                refine L.y rfl (Y.move rfl) ?_
                refine L.m (V := fun _ => pt b2 (0 + x9.Item.toNat * 1)) h rfl (Y.indexAM (l := gl5) Try.underlying76 sz3 rfl rfl) (fun x15 ex15 h => ?_)
                refine L.storeArM (q := 2) (row := I) (vs := [.int .i64 gx4]) (j := 0) (u1 := gx4) h sz3 rfl rfl rfl rfl rfl (all1 rfl all0) rfl (fun _ => rfl) (idxA_idx ex15) rfl rfl ?_
                intro l16 el16 h
                refine L.nil ?_
                refine E.blockN ?_
                refine E.thenN ?_
                refine W.region ?_
                refine L.m (V := fun x17 => .int .i64 x17) h rfl (Y.addM rfl rfl) (fun x17 ex17 h => ?_)
                refine L.y rfl (Y.move rfl) ?_
                refine L.nil ?_
                exact E.againJ ⟨x17, l16, rfl, rfl, by rw [hg1]; exact h⟩ (Nat.lt_succ_self _) ⟨rfl, rfl, rfl, rfl, rfl, rfl, trivial⟩ (fun _ hw => hw.sel [1, 2, 3] (by decide) rfl)
            ·
              refine L.y rfl (Y.move rfl) ?_
              refine L.pass rfl rfl (by nofun) ?_
              refine L.pass rfl rfl (by nofun) ?_
              refine L.pass rfl rfl (by nofun) ?_
              refine L.pass rfl rfl (by nofun) ?_
              refine L.pass rfl rfl (by nofun) ?_
              refine L.y rfl (Y.pickF rfl rfl) ?_
              refine L.nil ?_
              refine E.thenN ?_
              refine W.condF rfl ?_
              refine W.skip ?_
              refine E.blockN ?_
              refine E.thenN ?_
              refine W.region ?_
              refine L.m (V := fun x18 => .int .i64 x18) h rfl (Y.addM rfl rfl) (fun x18 ex18 h => ?_)
              refine L.y rfl (Y.move rfl) ?_
              refine L.nil ?_
              exact E.againJ ⟨x18, gl5, rfl, rfl, by rw [hg1]; exact h⟩ (Nat.lt_succ_self _) ⟨rfl, rfl, rfl, rfl, rfl, rfl, trivial⟩ (fun _ hw => hw.sel [1, 2, 3] (by decide) rfl)
          ·
            refine L.nil ?_
            refine E.thenN ?_
            refine W.seq ?_
            refine W.condF rfl ?_
            refine W.exit ?_
            refine E.thenX ?_
            refine E.KLX ?_
            refine E.blockX ?_
            exact E.joinJ ⟨gl5, rfl, rfl, h⟩ ⟨rfl, rfl, trivial⟩ (fun _ hw => hw.sel [1, 2] (by decide) rfl)
        ·
          rintro _ _ ⟨gl3, rfl, rfl, h⟩
          rw [m53_see_Last_K4] at h
          refine W.seq ?_
          refine W.region ?_
          obtain ⟨_, en4, h⟩ := bind1S h
          obtain ⟨_, en4⟩ := arrN_some en4
          refine L.y rfl (Y.loadArAll (q := 0) (row := I) ag76 sz76 rfl rfl (fun _ => rfl) (by rw [en4])) ?_
          obtain ⟨_, en5, h⟩ := bind1S h
          obtain ⟨_, en5⟩ := arrN_some en5
          obtain ⟨_, en6, h⟩ := bind1S h
          obtain ⟨_, en6⟩ := arrN_some en6
          refine L.storeArW (i := 1) (row := I) en5 en6 rfl (fun _ => rfl) (plain_ints _) sz76 rfl rfl rfl ?_
          refine L.y rfl (Y.assign rfl) ?_
          refine L.nil ?_
          refine E.thenN ?_
          refine W.ret ?_
          obtain ⟨_, en7, h⟩ := bind1S h
          obtain ⟨_, en7⟩ := arrN_some en7
          refine E.retR2 rfl (Rv.cellAr (i := 1) (row := I) ag76 sz76 rfl rfl (fun _ => rfl) (by rw [en7])) (Rv.tmp rfl) (fun w1 hw => ?_)
          obtain rfl := Option.some.inj h
          exact ⟨_, _, rfl, ⟨rfl, rfl⟩, hw.sel [] (by decide) rfl⟩
set_option maxRecDepth 100000 in
set_option maxHeartbeats 8000000 in
theorem w161_api_Op (a0 : (List TOp)) (a1 : TOp) (u0 : Value) (w : World) (r : Int) (h : m161_api_Op a0 a1 = some r) (hA0 : At w u0 3 (a0.map TOp.row)) : Does Try.prog 161 [u0, .agg #[.int .i64 a1.Tx, .int .i64 a1.Kind, .int .i64 a1.Item]] w fun u m => u = .int .i64 r ∧ m = [] := by
  rw [m161_api_Op] at h
  refine body (n := 19) Try.func161 rfl rfl rfl (Cls.refl w) ?_
  refine W.seq ?_
  refine W.region ?_
  refine L.box rfl rfl ?_
  intro b1
  refine L.y rfl (Y.assign rfl) ?_
  refine L.nil ?_
  refine E.thenN ?_
  refine W.seqJ (fun gs D => gs = [] ∧ D = Cls w [] [] ∧ m161_api_Op_K1 = some r) ?_ ?_
  ·
    refine W.seq ?_
    refine W.region ?_
    refine L.y rfl (Y.move rfl) ?_
    refine L.y rfl (Y.lenM (g := TOp.row) (l := a0) Try.underlying71 rfl (fun w' hw => hA0.cls0 hw)) ?_
    refine L.y rfl (Y.move rfl) ?_
    refine L.nil ?_
    refine E.thenN ?_
    refine W.block ?_
    refine W.loopJ (fun m gs D => ∃ (gx1 : Int), gs = [(0, u0), (3, pt b1 0), (7, .int .i64 (a0.length : Int)), (8, .int .i64 gx1)] ∧ D = Cls w [] [.obj b1 [.int .i64 a1.Tx, .int .i64 a1.Kind, .int .i64 a1.Item] 164] ∧ m161_api_Op_L1 a0 a1 m gx1 = some r) ⟨0, rfl, rfl, h⟩ ⟨rfl, rfl, rfl, rfl, trivial⟩ (fun _ hw => hw) ?_
    rintro m _ _ ⟨gx1, rfl, rfl, h⟩
    rcases m with _ | m
    · rw [m161_api_Op_L1] at h; cases h
    rw [m161_api_Op_L1] at h
    generalize hg1 : m161_api_Op_L1 a0 a1 m = go1 at h
    rw [m161_api_Op_L1B] at h
    refine W.seq ?_
    refine W.region ?_
    refine L.ite h rfl (Y.lss rfl rfl) (fun c2 h => ?_) (fun c2 h => ?_)
    ·
      refine L.nil ?_
      refine E.thenN ?_
      refine W.seq ?_
      refine W.condT rfl ?_
      refine W.skip ?_
      refine E.thenN ?_
      refine W.seq ?_
      refine W.block ?_
      refine W.seq ?_
      refine W.region ?_
      refine L.y rfl (Y.move rfl) ?_
      refine L.y rfl (Y.assign rfl) ?_
      refine L.nil ?_
      refine E.thenN ?_
      refine W.seq ?_
      refine W.quietC mixed (by kernel_rfl) (fun _ hw => hw.drew) (fun hC => ?_)
      refine U.y rfl (Y.loadPW (i := 0) ag164 sz164 rfl rfl rfl) ?_
      refine U.y rfl (Y.move rfl) ?_
      refine U.y rfl (Y.move rfl) ?_
      refine U.m (V := fun _ => el u0 (gx1.toNat * 3)) h rfl (Y.indexM (g := TOp.row) (l := a0) Try.underlying71 sz164 rfl rfl (fun w' hw => hA0.cls0 hw)) (fun x3 ex3 h => ?_)
      refine U.y rfl (Y.loadEN (r := [.int .i64 x3.Tx, .int .i64 x3.Kind, .int .i64 x3.Item]) ag164 sz164 rfl (fun w' hw => hA0.cls0 hw) (idx_map ex3) rfl) ?_
      refine U.ite h rfl (Y.eqlA (row := TOp.row) (a := a1) (b := x3) eg164 ag164 (sh164 _) (sh164 _) (inj164 _ _) rfl rfl) (fun c4 h => ?_) (fun c4 h => ?_)
      ·
        refine U.nil ?_
        refine E.thenN ?_
        refine W.condT rfl ?_
        refine W.seq ?_
        refine W.region ?_
        refine L.y rfl (Y.move rfl) ?_
        refine L.y rfl (Y.assign rfl) ?_
        refine L.nil ?_
        refine E.thenN ?_
        refine W.ret ?_
        refine E.blockR ?_
        refine E.thenR ?_
        refine E.KLR ?_
        refine E.blockR ?_
        refine E.KSR ?_
        refine E.ret1 rfl rfl (fun w1 hw => ?_)
        obtain rfl := Option.some.inj h
        exact ⟨_, _, rfl, ⟨rfl, rfl⟩, hw.sel [] (by decide) rfl⟩
      ·
        refine U.nil ?_
        refine E.thenN ?_
        refine W.condF rfl ?_
        refine W.skip ?_
        refine E.blockN ?_
        refine E.thenN ?_
        refine W.region ?_
        refine L.m (V := fun x5 => .int .i64 x5) h rfl (Y.addM rfl rfl) (fun x5 ex5 h => ?_)
        refine L.y rfl (Y.move rfl) ?_
        refine L.nil ?_
        exact E.againJ ⟨x5, rfl, rfl, by rw [hg1]; exact h⟩ (Nat.lt_succ_self _) ⟨rfl, rfl, rfl, rfl, trivial⟩ (fun _ hw => hw)
    ·
      refine L.nil ?_
      refine E.thenN ?_
      refine W.seq ?_
      refine W.condF rfl ?_
      refine W.exit ?_
      refine E.thenX ?_
      refine E.KLX ?_
      refine E.blockX ?_
      exact E.joinJ ⟨rfl, rfl, h⟩ trivial (fun _ hw => hw.sel [] (by decide) rfl)
  ·
    rintro _ _ ⟨rfl, rfl, h⟩
    rw [m161_api_Op_K1] at h
    refine W.seq ?_
    refine W.region ?_
    refine L.y rfl (Y.assign rfl) ?_
    refine L.nil ?_
    refine E.thenN ?_
    refine W.ret ?_
    refine E.ret1 rfl rfl (fun w1 hw => ?_)
    obtain rfl := Option.some.inj h
    exact ⟨_, _, rfl, ⟨rfl, rfl⟩, hw⟩
set_option maxRecDepth 100000 in
set_option maxHeartbeats 8000000 in
theorem w148_api_Op (a0 : (List TOp)) (a1 : TOp) (u0 : Value) (w : World) (r : Bool) (h : m148_api_Op a0 a1 = some r) (hA0 : At w u0 3 (a0.map TOp.row)) : Does Try.prog 148 [u0, .agg #[.int .i64 a1.Tx, .int .i64 a1.Kind, .int .i64 a1.Item]] w fun u m => u = .bool r ∧ m = [] := by
  rw [m148_api_Op] at h
  refine body (n := 9) Try.func148 rfl rfl rfl (Cls.refl w) ?_
  refine W.seq ?_
  refine W.region ?_
  refine L.box rfl rfl ?_
  intro b1
  refine L.y rfl (Y.assign rfl) ?_
  refine L.nil ?_
  refine E.thenN ?_
  refine W.seq ?_
  refine W.region ?_
  refine L.y rfl (Y.move rfl) ?_
  refine L.y rfl (Y.loadPW (i := 0) ag164 sz164 rfl rfl rfl) ?_
  obtain ⟨x2, e3, h⟩ := bind1S h
  refine L.y rfl (Y.does en161 rfl (fun w' hw => (w161_api_Op a0 a1 u0 w' _ e3 (hA0.cls0 hw)).mono (fun _ _ h => h.1))) ?_
  refine L.y rfl (Y.geq rfl rfl) ?_
  refine L.y rfl (Y.assign rfl) ?_
  refine L.nil ?_
  refine E.thenN ?_
  refine W.ret ?_
  refine E.ret1 rfl rfl (fun w1 hw => ?_)
  obtain rfl := Option.some.inj h
  exact ⟨_, _, rfl, ⟨rfl, rfl⟩, hw.sel [] (by decide) rfl⟩
set_option maxRecDepth 100000 in
set_option maxHeartbeats 8000000 in
theorem w111_quirref_has (a0 : (List TOp)) (a1 : Int) (a2 : Int) (u0 : Value) (w : World) (r : Bool) (h : m111_quirref_has a0 a1 a2 = some r) (hA0 : At w u0 3 (a0.map TOp.row)) : Does Try.prog 111 [u0, .int .i64 a1, .int .i64 a2] w fun u m => u = .bool r ∧ m = [] := by
  rw [m111_quirref_has] at h
  refine body (n := 12) Try.func111 rfl rfl rfl (Cls.refl w) ?_
  refine W.seq ?_
  refine W.region ?_
  refine L.y rfl (Y.assign rfl) ?_
  refine L.nil ?_
  refine E.thenN ?_
  refine W.seq ?_
  refine W.region ?_
  refine L.y rfl (Y.move rfl) ?_
  refine L.y rfl (Y.move rfl) ?_
  refine L.y rfl (Y.move rfl) ?_
  refine L.y rfl (Y.build (cells := #[.int .i64 a1, .int .i64 a2, .int .i64 0]) rfl (by kernel_rfl)) ?_
  obtain ⟨b1, e2, h⟩ := bind1S h
  refine L.y rfl (Y.does en148 rfl (fun w' hw => (w148_api_Op a0 (⟨a1, a2, 0⟩ : TOp) u0 w' _ e2 (hA0.cls0 hw)).mono (fun _ _ h => h.1))) ?_
  refine L.y rfl (Y.assign rfl) ?_
  refine L.nil ?_
  refine E.thenN ?_
  refine W.ret ?_
  refine E.ret1 rfl rfl (fun w1 hw => ?_)
  obtain rfl := Option.some.inj h
  exact ⟨_, _, rfl, ⟨rfl, rfl⟩, hw⟩
set_option maxRecDepth 100000 in
set_option maxHeartbeats 8000000 in
theorem w110_quirref_writer (a0 : (List TOp)) (a1 : Int) (a2 : Int) (u0 : Value) (w : World) (r : Int) (h : m110_quirref_writer a0 a1 a2 = some r) (hA0 : At w u0 3 (a0.map TOp.row)) : Does Try.prog 110 [u0, .int .i64 a1, .int .i64 a2] w fun u m => u = .int .i64 r ∧ m = [] := by
  rw [m110_quirref_writer] at h
  refine body (n := 38) Try.func110 rfl rfl rfl (Cls.refl w) ?_
  refine W.seq ?_
  refine W.region ?_
  refine L.y rfl (Y.assign rfl) ?_
  refine L.nil ?_
  refine E.thenN ?_
  refine W.seqJ (fun gs D => gs = [] ∧ D = Cls w [] [] ∧ m110_quirref_writer_K1 = some r) ?_ ?_
  ·
    refine W.seq ?_
    refine W.region ?_
    refine L.y rfl (Y.move rfl) ?_
    refine L.m (V := fun x1 => .int .i64 x1) h rfl (Y.subM rfl rfl) (fun x1 ex1 h => ?_)
    refine L.y rfl (Y.assign rfl) ?_
    refine L.nil ?_
    refine E.thenN ?_
    refine W.block ?_
    refine W.loopJ (fun m gs D => ∃ (gx1 : Int), gs = [(0, u0), (1, .int .i64 a1), (2, .int .i64 a2), (7, .int .i64 gx1)] ∧ D = Cls w [] [] ∧ m110_quirref_writer_L1 a0 a2 a1 m gx1 = some r) ⟨x1, rfl, rfl, h⟩ ⟨rfl, rfl, rfl, rfl, trivial⟩ (fun _ hw => hw) ?_
    rintro m _ _ ⟨gx1, rfl, rfl, h⟩
    rcases m with _ | m
    · rw [m110_quirref_writer_L1] at h; cases h
    rw [m110_quirref_writer_L1] at h
    generalize hg1 : m110_quirref_writer_L1 a0 a2 a1 m = go1 at h
    rw [m110_quirref_writer_L1B] at h
    refine W.seqJ (fun gs D => gs = [(0, u0), (1, .int .i64 a1), (2, .int .i64 a2), (7, .int .i64 gx1)] ∧ D = Cls w [] [] ∧ m110_quirref_writer_K2 a0 gx1 a2 a1 go1 = some r) ?_ ?_
    ·
      refine W.seq ?_
      refine W.region ?_
      refine L.y rfl (Y.move rfl) ?_
      refine L.ite h rfl (Y.geq rfl rfl) (fun c11 h => ?_) (fun c11 h => ?_)
      ·
        refine L.nil ?_
        refine E.thenN ?_
        refine W.condT rfl ?_
        refine W.skip ?_
        exact E.joinJ ⟨rfl, rfl, h⟩ ⟨rfl, rfl, rfl, rfl, trivial⟩ (fun _ hw => hw)
      ·
        refine L.nil ?_
        refine E.thenN ?_
        refine W.condF rfl ?_
        refine W.exit ?_
        refine E.KSX ?_
        refine E.KLX ?_
        refine E.blockX ?_
        exact E.joinJ ⟨rfl, rfl, h⟩ trivial (fun _ hw => hw)
    ·
      rintro _ _ ⟨rfl, rfl, h⟩
      rw [m110_quirref_writer_K2] at h
      refine W.seq ?_
      refine W.block ?_
      refine W.seq ?_
      refine W.region ?_
      refine L.y rfl (Y.move rfl) ?_
      refine L.y rfl (Y.move rfl) ?_
      refine L.m (V := fun _ => el u0 (gx1.toNat * 3)) h rfl (Y.indexM (g := TOp.row) (l := a0) Try.underlying71 sz164 rfl rfl (fun w' hw => hA0.cls0 hw)) (fun x2 ex2 h => ?_)
      refine L.y rfl (Y.loadEN (r := [.int .i64 x2.Tx, .int .i64 x2.Kind, .int .i64 x2.Item]) ag164 sz164 rfl (fun w' hw => hA0.cls0 hw) (idx_map ex2) rfl) ?_
      refine L.alloc rfl ze164 ?_
      intro b3
      refine L.store (i := 0) sz164 rfl rfl rfl rfl (by simp [Value.oneCell', Value.cells, st]) rfl (Nat.le_of_ble_eq_true rfl) ?_
      refine L.nil ?_
      refine E.thenN ?_
      refine W.seq ?_
      refine W.quietC mixed (by kernel_rfl) (fun _ hw => hw.drew) (fun hC => ?_)
      refine U.cutJ hC 9 (fun gs => ∃ (gb2 : Bool), gs = [(0, u0), (1, .int .i64 a1), (2, .int .i64 a2), (7, .int .i64 gx1), (8, pt b3 0), (27, .bool gb2)] ∧ m110_quirref_writer_K3 a0 a1 x2 gx1 go1 gb2 = some r) ?_ ?_
      ·
        refine U.y rfl (Y.fieldP fd164_1 rfl) ?_
        refine U.y rfl (Y.loadP (i := 0) ag3 rfl rfl rfl) ?_
        refine U.ite h rfl (Y.eql rfl rfl) (fun c9 h => ?_) (fun c9 h => ?_)
        ·
          refine U.y rfl (Y.move rfl) ?_
          refine U.take rfl ?_
          refine U.y rfl (Y.fieldP fd164_2 rfl) ?_
          refine U.take rfl ?_
          refine U.y rfl (Y.loadP (i := 0) ag3 rfl rfl rfl) ?_
          refine U.take rfl ?_
          refine U.y rfl (Y.move rfl) ?_
          refine U.take rfl ?_
          refine U.ite h rfl (Y.eql rfl rfl) (fun c10 h => ?_) (fun c10 h => ?_)
          ·
            refine U.y rfl (Y.pickT rfl rfl) ?_
            refine U.nil ?_
            exact E.joinU ⟨true, rfl, h⟩ ⟨rfl, rfl, rfl, rfl, rfl, rfl, trivial⟩
          ·
            refine U.y rfl (Y.pickT rfl rfl) ?_
            refine U.nil ?_
            exact E.joinU ⟨false, rfl, h⟩ ⟨rfl, rfl, rfl, rfl, rfl, rfl, trivial⟩
        ·
          refine U.y rfl (Y.move rfl) ?_
          refine U.pass rfl rfl (by nofun) ?_
          refine U.pass rfl rfl (by nofun) ?_
          refine U.pass rfl rfl (by nofun) ?_
          refine U.pass rfl rfl (by nofun) ?_
          refine U.y rfl (Y.pickF rfl rfl) ?_
          refine U.nil ?_
          exact E.joinU ⟨false, rfl, h⟩ ⟨rfl, rfl, rfl, rfl, rfl, rfl, trivial⟩
      ·
        rintro _ ⟨gb2, rfl, h⟩
        rw [m110_quirref_writer_K3] at h
        rcases gb2 with _ | _
        ·
          replace h := iteF h
          refine U.y rfl (Y.move rfl) ?_
          refine U.pass rfl rfl (by nofun) ?_
          refine U.pass rfl rfl (by nofun) ?_
          refine U.pass rfl rfl (by nofun) ?_
          refine U.pass rfl rfl (by nofun) ?_
          refine U.pass rfl rfl (by nofun) ?_
          refine U.pass rfl rfl (by nofun) ?_
          refine U.pass rfl rfl (by nofun) ?_
          refine U.y rfl (Y.pickF rfl rfl) ?_
          refine U.nil ?_
          refine E.thenN ?_
          refine W.condF rfl ?_
          refine W.skip ?_
          refine E.blockN ?_
          refine E.thenN ?_
          refine W.region ?_
          refine L.y rfl (Y.move rfl) ?_
          refine L.m (V := fun x4 => .int .i64 x4) h rfl (Y.subM rfl rfl) (fun x4 ex4 h => ?_)
          refine L.y rfl (Y.assign rfl) ?_
          refine L.nil ?_
          exact E.againJ ⟨x4, rfl, rfl, by rw [hg1]; exact h⟩ (Nat.lt_succ_self _) ⟨rfl, rfl, rfl, rfl, trivial⟩ (fun _ hw => hw.sel [] (by decide) rfl)
        ·
          replace h := iteT h
          refine U.y rfl (Y.move rfl) ?_
          refine U.take rfl ?_
          refine U.y rfl (Y.move rfl) ?_
          refine U.take rfl ?_
          refine U.y rfl (Y.move rfl) ?_
          refine U.take rfl ?_
          refine U.m (V := fun _ => cutv u0 a1.toNat) h rfl (Y.cutM (g := TOp.row) Try.underlying71 sz164 rfl rfl (fun w' hw => hA0.cls0 hw)) (fun l5 el5 h => ?_)
          refine U.take rfl ?_
          refine U.y rfl (Y.fieldP fd164_0 rfl) ?_
          refine U.take rfl ?_
          refine U.y rfl (Y.loadP (i := 0) ag3 rfl rfl rfl) ?_
          refine U.take rfl ?_
          obtain ⟨b6, e7, h⟩ := bind1S h
          refine U.y rfl (Y.does en111 rfl (fun w' hw => (w111_quirref_has l5 x2.Tx 4 (cutv u0 a1.toNat) w' _ e7 ((At.cutM hA0 el5).cls0 hw)).mono (fun _ _ h => h.1))) ?_
          rcases b6 with _ | _
          ·
            replace h := iteF h
            refine U.take rfl ?_
            refine U.y rfl (Y.not rfl) ?_
            refine U.y rfl (Y.pickT rfl rfl) ?_
            refine U.nil ?_
            refine E.thenN ?_
            refine W.condT rfl ?_
            refine W.seq ?_
            refine W.region ?_
            refine L.y rfl (Y.move rfl) ?_
            refine L.y rfl (Y.assign rfl) ?_
            refine L.nil ?_
            refine E.thenN ?_
            refine W.ret ?_
            refine E.blockR ?_
            refine E.thenR ?_
            refine E.KLR ?_
            refine E.blockR ?_
            refine E.KSR ?_
            refine E.ret1 rfl rfl (fun w1 hw => ?_)
            obtain rfl := Option.some.inj h
            exact ⟨_, _, rfl, ⟨rfl, rfl⟩, hw.sel [] (by decide) rfl⟩
          ·
            replace h := iteT h
            refine U.take rfl ?_
            refine U.y rfl (Y.not rfl) ?_
            refine U.y rfl (Y.pickT rfl rfl) ?_
            refine U.nil ?_
            refine E.thenN ?_
            refine W.condF rfl ?_
            refine W.skip ?_
            refine E.blockN ?_
            refine E.thenN ?_
            refine W.region ?_
            refine L.y rfl (Y.move rfl) ?_
            refine L.m (V := fun x8 => .int .i64 x8) h rfl (Y.subM rfl rfl) (fun x8 ex8 h => ?_)
            refine L.y rfl (Y.assign rfl) ?_
            refine L.nil ?_
            exact E.againJ ⟨x8, rfl, rfl, by rw [hg1]; exact h⟩ (Nat.lt_succ_self _) ⟨rfl, rfl, rfl, rfl, trivial⟩ (fun _ hw => hw.sel [] (by decide) rfl)
  ·
    rintro _ _ ⟨rfl, rfl, h⟩
    rw [m110_quirref_writer_K1] at h
    refine W.seq ?_
    refine W.region ?_
    refine L.y rfl (Y.assign rfl) ?_
    refine L.nil ?_
    refine E.thenN ?_
    refine W.ret ?_
    refine E.ret1 rfl rfl (fun w1 hw => ?_)
    obtain rfl := Option.some.inj h
    exact ⟨_, _, rfl, ⟨rfl, rfl⟩, hw⟩
set_option maxRecDepth 100000 in
set_option maxHeartbeats 8000000 in
theorem w55_quirref_Reads (a0 : (List TOp)) (u0 : Value) (w : World) (r : (List TSeen)) (h : m55_quirref_Reads a0 = some r) (hA0 : At w u0 3 (a0.map TOp.row)) : Does Try.prog 55 [u0] w fun u m => ∃ v0, u = v0 ∧ m = [.sl v0 81 2 (r.map TSeen.row)] := by
  rw [m55_quirref_Reads] at h
  refine body (n := 28) Try.func55 rfl rfl rfl (Cls.refl w) ?_
  refine W.seq ?_
  refine W.region ?_
  refine L.y rfl (Y.assign rfl) ?_
  refine L.nil ?_
  refine E.thenN ?_
  refine W.seq ?_
  refine W.region ?_
  refine L.y rfl (Y.assign rfl) ?_
  refine L.nil ?_
  refine E.thenN ?_
  refine W.seqJ (fun gs D => ∃ (gv1 : Value) (gl2 : (List TSeen)), gs = [(3, gv1)] ∧ D = Cls w [] [.sl gv1 81 2 (gl2.map TSeen.row)] ∧ m55_quirref_Reads_K1 gl2 = some r) ?_ ?_
  ·
    refine W.seq ?_
    refine W.region ?_
    refine L.y rfl (Y.move rfl) ?_
    refine L.y rfl (Y.lenM (g := TOp.row) (l := a0) Try.underlying71 rfl (fun w' hw => hA0.cls0 hw)) ?_
    refine L.y rfl (Y.move rfl) ?_
    refine L.nil ?_
    refine E.thenN ?_
    refine W.block ?_
    refine W.nilSl 81 2 ?_
    refine W.loopJ (fun m gs D => ∃ (gv3 : Value) (gl4 : (List TSeen)) (gx5 : Int), gs = [(0, u0), (3, gv3), (6, u0), (7, .int .i64 (a0.length : Int)), (8, .int .i64 gx5)] ∧ D = Cls w [] [.sl gv3 81 2 (gl4.map TSeen.row)] ∧ m55_quirref_Reads_L1 a0 m gl4 gx5 = some r) ⟨.slice none 0 0, [], 0, rfl, rfl, h⟩ ⟨rfl, rfl, rfl, rfl, rfl, trivial⟩ (fun _ hw => hw) ?_
    rintro m _ _ ⟨gv3, gl4, gx5, rfl, rfl, h⟩
    rcases m with _ | m
    · rw [m55_quirref_Reads_L1] at h; cases h
    rw [m55_quirref_Reads_L1] at h
    generalize hg1 : m55_quirref_Reads_L1 a0 m = go1 at h
    rw [m55_quirref_Reads_L1B] at h
    refine W.seq ?_
    refine W.region ?_
    refine L.ite h rfl (Y.lss rfl rfl) (fun c1 h => ?_) (fun c1 h => ?_)
    ·
      refine L.nil ?_
      refine E.thenN ?_
      refine W.seq ?_
      refine W.condT rfl ?_
      refine W.skip ?_
      refine E.thenN ?_
      refine W.seq ?_
      refine W.block ?_
      refine W.seq ?_
      refine W.region ?_
      refine L.y rfl (Y.move rfl) ?_
      refine L.m (V := fun _ => el u0 (gx5.toNat * 3)) h rfl (Y.indexM (g := TOp.row) (l := a0) Try.underlying71 sz164 rfl rfl (fun w' hw => hA0.cls0 hw)) (fun x2 ex2 h => ?_)
      refine L.y rfl (Y.loadEN (r := [.int .i64 x2.Tx, .int .i64 x2.Kind, .int .i64 x2.Item]) ag164 sz164 rfl (fun w' hw => hA0.cls0 hw) (idx_map ex2) rfl) ?_
      refine L.alloc rfl ze164 ?_
      intro b3
      refine L.y rfl (Y.assign rfl) ?_
      refine L.store (i := 0) sz164 rfl rfl rfl rfl (by simp [Value.oneCell', Value.cells, st]) rfl (Nat.le_of_ble_eq_true rfl) ?_
      refine L.nil ?_
      refine E.thenN ?_
      refine W.seq ?_
      refine W.region ?_
      refine L.y rfl (Y.fieldP fd164_1 rfl) ?_
      refine L.y rfl (Y.loadP (i := 0) ag3 rfl rfl rfl) ?_
      refine L.ite h rfl (Y.eql rfl rfl) (fun c4 h => ?_) (fun c4 h => ?_)
      ·
        refine L.nil ?_
        refine E.thenN ?_
        refine W.condT rfl ?_
        refine W.region ?_
        refine L.y rfl (Y.move rfl) ?_
        refine L.y rfl (Y.move rfl) ?_
        refine L.y rfl (Y.move rfl) ?_
        refine L.y rfl (Y.move rfl) ?_
        refine L.y rfl (Y.fieldP fd164_2 rfl) ?_
        refine L.y rfl (Y.loadP (i := 0) ag3 rfl rfl rfl) ?_
        obtain ⟨x5, e6, h⟩ := bind1S h
        refine L.y rfl (Y.does en110 rfl (fun w' hw => (w110_quirref_writer a0 gx5 x2.Item u0 w' _ e6 (hA0.cls0 hw)).mono (fun _ _ h => h.1))) ?_
        refine L.y rfl (Y.build (cells := #[.int .i64 gx5, .int .i64 x5]) rfl (by kernel_rfl)) ?_
        refine L.litAgg rfl Try.underlying73 el81 rfl rfl rfl ?_
        intro b7
        refine L.appM (i := 2) (g := TSeen.row) (l := gl4) (more := [(⟨gx5, x5⟩ : TSeen)]) h rfl Try.underlying73 el81 rfl rfl rfl (fun w hw => As.at_ (hw.get (i := 0) rfl)) (plain_TSeen _) rfl ?_
        intro v8 l9 el9 h
        refine L.y rfl (Y.assign rfl) ?_
        refine L.nil ?_
        refine E.blockN ?_
        refine E.thenN ?_
        refine W.region ?_
        refine L.m (V := fun x10 => .int .i64 x10) h rfl (Y.addM rfl rfl) (fun x10 ex10 h => ?_)
        refine L.y rfl (Y.move rfl) ?_
        refine L.nil ?_
        exact E.againJ ⟨v8, l9, x10, rfl, rfl, by rw [hg1]; exact h⟩ (Nat.lt_succ_self _) ⟨rfl, rfl, rfl, rfl, rfl, trivial⟩ (fun _ hw => hw.sel [0] (by decide) rfl)
      ·
        refine L.nil ?_
        refine E.thenN ?_
        refine W.condF rfl ?_
        refine W.skip ?_
        refine E.blockN ?_
        refine E.thenN ?_
        refine W.region ?_
        refine L.m (V := fun x11 => .int .i64 x11) h rfl (Y.addM rfl rfl) (fun x11 ex11 h => ?_)
        refine L.y rfl (Y.move rfl) ?_
        refine L.nil ?_
        exact E.againJ ⟨gv3, gl4, x11, rfl, rfl, by rw [hg1]; exact h⟩ (Nat.lt_succ_self _) ⟨rfl, rfl, rfl, rfl, rfl, trivial⟩ (fun _ hw => hw.sel [1] (by decide) rfl)
    ·
      refine L.nil ?_
      refine E.thenN ?_
      refine W.seq ?_
      refine W.condF rfl ?_
      refine W.exit ?_
      refine E.thenX ?_
      refine E.KLX ?_
      refine E.blockX ?_
      exact E.joinJ ⟨gv3, gl4, rfl, rfl, h⟩ ⟨rfl, trivial⟩ (fun _ hw => hw)
  ·
    rintro _ _ ⟨gv1, gl2, rfl, rfl, h⟩
    rw [m55_quirref_Reads_K1] at h
    refine W.seq ?_
    refine W.region ?_
    refine L.y rfl (Y.move rfl) ?_
    refine L.y rfl (Y.assign rfl) ?_
    refine L.nil ?_
    refine E.thenN ?_
    refine W.ret ?_
    refine E.ret1 rfl rfl (fun w1 hw => ?_)
    obtain rfl := Option.some.inj h
    exact ⟨_, _, rfl, ⟨_, rfl, rfl⟩, hw⟩
set_option maxRecDepth 100000 in
set_option maxHeartbeats 8000000 in
theorem w54_api_Seen (a0 : (List TSeen)) (a1 : (List TSeen)) (u0 : Value) (u1 : Value) (w : World) (r : Bool) (h : m54_api_Seen a0 a1 = some r) (hA0 : At w u0 2 (a0.map TSeen.row)) (hA1 : At w u1 2 (a1.map TSeen.row)) : Does Try.prog 54 [u0, u1] w fun u m => u = .bool r ∧ m = [] := by
  rw [m54_api_Seen] at h
  refine body (n := 26) Try.func54 rfl rfl rfl (Cls.refl w) ?_
  refine W.seq ?_
  refine W.region ?_
  refine L.y rfl (Y.assign rfl) ?_
  refine L.nil ?_
  refine E.thenN ?_
  refine W.seqJ (fun gs D => gs = [(0, u0), (1, u1)] ∧ D = Cls w [] [] ∧ m54_api_Seen_K1 a0 a1 = some r) ?_ ?_
  ·
    refine W.seq ?_
    refine W.region ?_
    refine L.y rfl (Y.move rfl) ?_
    refine L.y rfl (Y.lenM (g := TSeen.row) (l := a0) Try.underlying73 rfl (fun w' hw => hA0.cls0 hw)) ?_
    refine L.y rfl (Y.move rfl) ?_
    refine L.y rfl (Y.lenM (g := TSeen.row) (l := a1) Try.underlying73 rfl (fun w' hw => hA1.cls0 hw)) ?_
    refine L.ite h rfl (Y.neq rfl rfl) (fun c6 h => ?_) (fun c6 h => ?_)
    ·
      refine L.nil ?_
      refine E.thenN ?_
      refine W.condT rfl ?_
      refine W.seq ?_
      refine W.region ?_
      refine L.y rfl (Y.assign rfl) ?_
      refine L.nil ?_
      refine E.thenN ?_
      refine W.ret ?_
      refine E.KSR ?_
      refine E.ret1 rfl rfl (fun w1 hw => ?_)
      obtain rfl := Option.some.inj h
      exact ⟨_, _, rfl, ⟨rfl, rfl⟩, hw⟩
    ·
      refine L.nil ?_
      refine E.thenN ?_
      refine W.condF rfl ?_
      refine W.skip ?_
      exact E.joinJ ⟨rfl, rfl, h⟩ ⟨rfl, rfl, trivial⟩ (fun _ hw => hw)
  ·
    rintro _ _ ⟨rfl, rfl, h⟩
    rw [m54_api_Seen_K1] at h
    refine W.seqJ (fun gs D => gs = [] ∧ D = Cls w [] [] ∧ m54_api_Seen_K2 = some r) ?_ ?_
    ·
      refine W.seq ?_
      refine W.region ?_
      refine L.y rfl (Y.move rfl) ?_
      refine L.y rfl (Y.lenM (g := TSeen.row) (l := a0) Try.underlying73 rfl (fun w' hw => hA0.cls0 hw)) ?_
      refine L.y rfl (Y.move rfl) ?_
      refine L.nil ?_
      refine E.thenN ?_
      refine W.block ?_
      refine W.loopJ (fun m gs D => ∃ (gx1 : Int), gs = [(0, u0), (1, u1), (12, .int .i64 (a0.length : Int)), (13, .int .i64 gx1)] ∧ D = Cls w [] [] ∧ m54_api_Seen_L1 a0 a1 m gx1 = some r) ⟨0, rfl, rfl, h⟩ ⟨rfl, rfl, rfl, rfl, trivial⟩ (fun _ hw => hw) ?_
      rintro m _ _ ⟨gx1, rfl, rfl, h⟩
      rcases m with _ | m
      · rw [m54_api_Seen_L1] at h; cases h
      rw [m54_api_Seen_L1] at h
      generalize hg1 : m54_api_Seen_L1 a0 a1 m = go1 at h
      rw [m54_api_Seen_L1B] at h
      refine W.seq ?_
      refine W.region ?_
      refine L.ite h rfl (Y.lss rfl rfl) (fun c1 h => ?_) (fun c1 h => ?_)
      ·
        refine L.nil ?_
        refine E.thenN ?_
        refine W.seq ?_
        refine W.condT rfl ?_
        refine W.skip ?_
        refine E.thenN ?_
        refine W.seq ?_
        refine W.block ?_
        refine W.seq ?_
        refine W.region ?_
        refine L.y rfl (Y.move rfl) ?_
        refine L.y rfl (Y.assign rfl) ?_
        refine L.nil ?_
        refine E.thenN ?_
        refine W.seq ?_
        refine W.quietC mixed (by kernel_rfl) (fun _ hw => hw.drew) (fun hC => ?_)
        refine U.y rfl (Y.move rfl) ?_
        refine U.y rfl (Y.move rfl) ?_
        refine U.m (V := fun _ => el u0 (gx1.toNat * 2)) h rfl (Y.indexM (g := TSeen.row) (l := a0) Try.underlying73 sz81 rfl rfl (fun w' hw => hA0.cls0 hw)) (fun x2 ex2 h => ?_)
        refine U.y rfl (Y.loadEN (r := [.int .i64 x2.At, .int .i64 x2.From]) ag81 sz81 rfl (fun w' hw => hA0.cls0 hw) (idx_map ex2) rfl) ?_
        refine U.y rfl (Y.move rfl) ?_
        refine U.y rfl (Y.move rfl) ?_
        refine U.m (V := fun _ => el u1 (gx1.toNat * 2)) h rfl (Y.indexM (g := TSeen.row) (l := a1) Try.underlying73 sz81 rfl rfl (fun w' hw => hA1.cls0 hw)) (fun x3 ex3 h => ?_)
        refine U.y rfl (Y.loadEN (r := [.int .i64 x3.At, .int .i64 x3.From]) ag81 sz81 rfl (fun w' hw => hA1.cls0 hw) (idx_map ex3) rfl) ?_
        refine U.ite h rfl (Y.neqA (row := TSeen.row) (a := x2) (b := x3) eg81 ag81 (sh81 _) (sh81 _) (inj81 _ _) rfl rfl) (fun c4 h => ?_) (fun c4 h => ?_)
        ·
          refine U.nil ?_
          refine E.thenN ?_
          refine W.condT rfl ?_
          refine W.seq ?_
          refine W.region ?_
          refine L.y rfl (Y.assign rfl) ?_
          refine L.nil ?_
          refine E.thenN ?_
          refine W.ret ?_
          refine E.blockR ?_
          refine E.thenR ?_
          refine E.KLR ?_
          refine E.blockR ?_
          refine E.KSR ?_
          refine E.ret1 rfl rfl (fun w1 hw => ?_)
          obtain rfl := Option.some.inj h
          exact ⟨_, _, rfl, ⟨rfl, rfl⟩, hw⟩
        ·
          refine U.nil ?_
          refine E.thenN ?_
          refine W.condF rfl ?_
          refine W.skip ?_
          refine E.blockN ?_
          refine E.thenN ?_
          refine W.region ?_
          refine L.m (V := fun x5 => .int .i64 x5) h rfl (Y.addM rfl rfl) (fun x5 ex5 h => ?_)
          refine L.y rfl (Y.move rfl) ?_
          refine L.nil ?_
          exact E.againJ ⟨x5, rfl, rfl, by rw [hg1]; exact h⟩ (Nat.lt_succ_self _) ⟨rfl, rfl, rfl, rfl, trivial⟩ (fun _ hw => hw)
      ·
        refine L.nil ?_
        refine E.thenN ?_
        refine W.seq ?_
        refine W.condF rfl ?_
        refine W.exit ?_
        refine E.thenX ?_
        refine E.KLX ?_
        refine E.blockX ?_
        exact E.joinJ ⟨rfl, rfl, h⟩ trivial (fun _ hw => hw)
    ·
      rintro _ _ ⟨rfl, rfl, h⟩
      rw [m54_api_Seen_K2] at h
      refine W.seq ?_
      refine W.region ?_
      refine L.y rfl (Y.assign rfl) ?_
      refine L.nil ?_
      refine E.thenN ?_
      refine W.ret ?_
      refine E.ret1 rfl rfl (fun w1 hw => ?_)
      obtain rfl := Option.some.inj h
      exact ⟨_, _, rfl, ⟨rfl, rfl⟩, hw⟩
set_option maxRecDepth 100000 in
set_option maxHeartbeats 8000000 in
theorem w56_quirref_Last (a0 : (List TOp)) (u0 : Value) (w : World) (r : (List Int)) (h : m56_quirref_Last a0 = some r) (hA0 : At w u0 3 (a0.map TOp.row)) : Does Try.prog 56 [u0] w fun u m => u = .agg (r.map I).flatten.toArray ∧ m = [] := by
  rw [m56_quirref_Last] at h
  refine body (n := 41) Try.func56 rfl rfl rfl (Cls.refl w) ?_
  refine W.seq ?_
  refine W.region ?_
  refine L.alloc rfl ze76 ?_
  intro b1
  refine L.to (D := Cls w [] [.obj b1 (((List.replicate 20 (0 : Int)).map I).flatten) 76]) (fun _ hw => by first | exact hw | simpa [I, B, SR] using hw) ?_
  refine L.nil ?_
  refine E.thenN ?_
  refine W.seq ?_
  refine W.region ?_
  refine L.alloc rfl ze76 ?_
  intro b2
  refine L.to (D := Cls w [] [.obj b2 (((List.replicate 20 (0 : Int)).map I).flatten) 76, .obj b1 (((List.replicate 20 (0 : Int)).map I).flatten) 76]) (fun _ hw => by first | exact hw | simpa [I, B, SR] using hw) ?_
  refine L.nil ?_
  refine E.thenN ?_
  refine W.seqJ (fun gs D => ∃ (gl1 : (List Int)), gs = [(2, pt b1 0), (3, pt b2 0)] ∧ D = Cls w [] [.obj b2 ((gl1.map I).flatten) 76, .obj b1 (((List.replicate 20 (0 : Int)).map I).flatten) 76] ∧ m56_quirref_Last_K1 gl1 = some r) ?_ ?_
  ·
    refine W.seq ?_
    refine W.region ?_
    refine L.y rfl (Y.move rfl) ?_
    refine L.nil ?_
    refine E.thenN ?_
    refine W.block ?_
    refine W.loopJ (fun m gs D => ∃ (gx2 : Int) (gl3 : (List Int)), gs = [(0, u0), (2, pt b1 0), (3, pt b2 0), (7, .int .i64 gx2)] ∧ D = Cls w [] [.obj b2 ((gl3.map I).flatten) 76, .obj b1 (((List.replicate 20 (0 : Int)).map I).flatten) 76] ∧ m56_quirref_Last_L1 a0 m gx2 gl3 = some r) ⟨0, (List.replicate 20 (0 : Int)), rfl, rfl, h⟩ ⟨rfl, rfl, rfl, rfl, trivial⟩ (fun _ hw => hw) ?_
    rintro m _ _ ⟨gx2, gl3, rfl, rfl, h⟩
    rcases m with _ | m
    · rw [m56_quirref_Last_L1] at h; cases h
    rw [m56_quirref_Last_L1] at h
    generalize hg1 : m56_quirref_Last_L1 a0 m = go1 at h
    rw [m56_quirref_Last_L1B] at h
    refine W.seq ?_
    refine W.region ?_
    refine L.ite h rfl (Y.lss rfl rfl) (fun c7 h => ?_) (fun c7 h => ?_)
    ·
      refine L.nil ?_
      refine E.thenN ?_
      refine W.seq ?_
      refine W.condT rfl ?_
      refine W.skip ?_
      refine E.thenN ?_
      refine W.seqJ (fun gs D => ∃ (gl4 : (List Int)), gs = [(0, u0), (2, pt b1 0), (3, pt b2 0), (7, .int .i64 gx2)] ∧ D = Cls w [] [.obj b2 ((gl4.map I).flatten) 76, .obj b1 (((List.replicate 20 (0 : Int)).map I).flatten) 76] ∧ m56_quirref_Last_K2 gx2 go1 gl4 = some r) ?_ ?_
      ·
        refine W.block ?_
        refine W.seq ?_
        refine W.region ?_
        refine L.y rfl (Y.move rfl) ?_
        refine L.y rfl (Y.assign rfl) ?_
        refine L.nil ?_
        refine E.thenN ?_
        refine W.seq ?_
        refine W.region ?_
        refine L.y rfl (Y.move rfl) ?_
        refine L.m (V := fun _ => pt b2 (0 + gx2.toNat * 1)) h rfl (Y.indexAM (l := gl3) Try.underlying76 sz3 rfl rfl) (fun x9 ex9 h => ?_)
        refine L.storeArM (q := 0) (row := I) (vs := [.int .i64 (-1)]) (j := 0) (u1 := (-1)) h sz3 rfl rfl rfl rfl rfl (all1 rfl all0) rfl (fun _ => rfl) (idxA_idx ex9) rfl rfl ?_
        intro l10 el10 h
        refine L.nil ?_
        refine E.thenN ?_
        refine W.seq ?_
        refine W.region ?_
        refine L.y rfl (Y.move rfl) ?_
        refine L.y rfl (Y.lenM (g := TOp.row) (l := a0) Try.underlying71 rfl (fun w' hw => hA0.cls0 hw)) ?_
        refine L.y rfl (Y.move rfl) ?_
        refine L.nil ?_
        refine E.thenN ?_
        refine W.block ?_
        refine W.loopJ (fun m gs D => ∃ (gx5 : Int) (gl6 : (List Int)), gs = [(0, u0), (2, pt b1 0), (3, pt b2 0), (4, .int .i64 gx2), (7, .int .i64 gx2), (12, u0), (13, .int .i64 (a0.length : Int)), (14, .int .i64 gx5)] ∧ D = Cls w [] [.obj b2 ((gl6.map I).flatten) 76, .obj b1 (((List.replicate 20 (0 : Int)).map I).flatten) 76] ∧ m56_quirref_Last_L2 a0 gx2 go1 m gx5 gl6 = some r) ⟨0, l10, rfl, rfl, h⟩ ⟨rfl, rfl, rfl, rfl, rfl, rfl, rfl, rfl, trivial⟩ (fun _ hw => hw) ?_
        rintro m _ _ ⟨gx5, gl6, rfl, rfl, h⟩
        rcases m with _ | m
        · rw [m56_quirref_Last_L2] at h; cases h
        rw [m56_quirref_Last_L2] at h
        generalize hg2 : m56_quirref_Last_L2 a0 gx2 go1 m = go2 at h
        rw [m56_quirref_Last_L2B] at h
        refine W.seq ?_
        refine W.region ?_
        refine L.ite h rfl (Y.lss rfl rfl) (fun c11 h => ?_) (fun c11 h => ?_)
        ·
          refine L.nil ?_
          refine E.thenN ?_
          refine W.seq ?_
          refine W.condT rfl ?_
          refine W.skip ?_
          refine E.thenN ?_
          refine W.seq ?_
          refine W.block ?_
          refine W.seq ?_
          refine W.region ?_
          refine L.y rfl (Y.move rfl) ?_
          refine L.m (V := fun _ => el u0 (gx5.toNat * 3)) h rfl (Y.indexM (g := TOp.row) (l := a0) Try.underlying71 sz164 rfl rfl (fun w' hw => hA0.cls0 hw)) (fun x12 ex12 h => ?_)
          refine L.y rfl (Y.loadEN (r := [.int .i64 x12.Tx, .int .i64 x12.Kind, .int .i64 x12.Item]) ag164 sz164 rfl (fun w' hw => hA0.cls0 hw) (idx_map ex12) rfl) ?_
          refine L.alloc rfl ze164 ?_
          intro b13
          refine L.y rfl (Y.assign rfl) ?_
          refine L.store (i := 0) sz164 rfl rfl rfl rfl (by simp [Value.oneCell', Value.cells, st]) rfl (Nat.le_of_ble_eq_true rfl) ?_
          refine L.nil ?_
          refine E.thenN ?_
          refine W.seq ?_
          refine W.region ?_
          refine L.cutJ 9 (fun gs D => ∃ (gb7 : Bool), gs = [(0, u0), (2, pt b1 0), (3, pt b2 0), (4, .int .i64 gx2), (5, .int .i64 gx5), (6, pt b13 0), (7, .int .i64 gx2), (12, u0), (13, .int .i64 (a0.length : Int)), (14, .int .i64 gx5), (27, .bool gb7)] ∧ D = Cls w [] [.obj b13 [.int .i64 x12.Tx, .int .i64 x12.Kind, .int .i64 x12.Item] 164, .obj b2 ((gl6.map I).flatten) 76, .obj b1 (((List.replicate 20 (0 : Int)).map I).flatten) 76] ∧ m56_quirref_Last_K3 a0 x12 gx5 go2 gl6 gx2 gb7 = some r) ?_ ?_
          ·
            refine L.y rfl (Y.fieldP fd164_1 rfl) ?_
            refine L.y rfl (Y.loadP (i := 0) ag3 rfl rfl rfl) ?_
            refine L.ite h rfl (Y.eql rfl rfl) (fun c21 h => ?_) (fun c21 h => ?_)
            ·
              refine L.y rfl (Y.move rfl) ?_
              refine L.take rfl ?_
              refine L.y rfl (Y.fieldP fd164_2 rfl) ?_
              refine L.take rfl ?_
              refine L.y rfl (Y.loadP (i := 0) ag3 rfl rfl rfl) ?_
              refine L.take rfl ?_
              refine L.y rfl (Y.move rfl) ?_
              refine L.take rfl ?_
              refine L.ite h rfl (Y.eql rfl rfl) (fun c22 h => ?_) (fun c22 h => ?_)
              ·
                refine L.y rfl (Y.pickT rfl rfl) ?_
                refine L.nil ?_
                exact E.joinJ ⟨true, rfl, rfl, h⟩ ⟨rfl, rfl, rfl, rfl, rfl, rfl, rfl, rfl, rfl, rfl, rfl, trivial⟩ (fun _ hw => hw)
              ·
                refine L.y rfl (Y.pickT rfl rfl) ?_
                refine L.nil ?_
                exact E.joinJ ⟨false, rfl, rfl, h⟩ ⟨rfl, rfl, rfl, rfl, rfl, rfl, rfl, rfl, rfl, rfl, rfl, trivial⟩ (fun _ hw => hw)
            ·
              refine L.y rfl (Y.move rfl) ?_
              refine L.pass rfl rfl (by nofun) ?_
              refine L.pass rfl rfl (by nofun) ?_
              refine L.pass rfl rfl (by nofun) ?_
              refine L.pass rfl rfl (by nofun) ?_
              refine L.y rfl (Y.pickF rfl rfl) ?_
              refine L.nil ?_
              exact E.joinJ ⟨false, rfl, rfl, h⟩ ⟨rfl, rfl, rfl, rfl, rfl, rfl, rfl, rfl, rfl, rfl, rfl, trivial⟩ (fun _ hw => hw)
          ·
            rintro _ _ ⟨gb7, rfl, rfl, h⟩
            rw [m56_quirref_Last_K3] at h
            rcases gb7 with _ | _
            ·
              replace h := iteF h
              refine L.y rfl (Y.move rfl) ?_
              refine L.pass rfl rfl (by nofun) ?_
              refine L.pass rfl rfl (by nofun) ?_
              refine L.pass rfl rfl (by nofun) ?_
              refine L.pass rfl rfl (by nofun) ?_
              refine L.pass rfl rfl (by nofun) ?_
              refine L.y rfl (Y.pickF rfl rfl) ?_
              refine L.nil ?_
              refine E.thenN ?_
              refine W.condF rfl ?_
              refine W.skip ?_
              refine E.blockN ?_
              refine E.thenN ?_
              refine W.region ?_
              refine L.m (V := fun x14 => .int .i64 x14) h rfl (Y.addM rfl rfl) (fun x14 ex14 h => ?_)
              refine L.y rfl (Y.move rfl) ?_
              refine L.nil ?_
              exact E.againJ ⟨x14, gl6, rfl, rfl, by rw [hg2]; exact h⟩ (Nat.lt_succ_self _) ⟨rfl, rfl, rfl, rfl, rfl, rfl, rfl, rfl, trivial⟩ (fun _ hw => hw.sel [1, 2] (by decide) rfl)
            ·
              replace h := iteT h
              refine L.y rfl (Y.move rfl) ?_
              refine L.take rfl ?_
              refine L.y rfl (Y.move rfl) ?_
              refine L.take rfl ?_
              refine L.y rfl (Y.fieldP fd164_0 rfl) ?_
              refine L.take rfl ?_
              refine L.y rfl (Y.loadP (i := 0) ag3 rfl rfl rfl) ?_
              refine L.take rfl ?_
              obtain ⟨b15, e16, h⟩ := bind1S h
              refine L.y rfl (Y.does en111 rfl (fun w' hw => (w111_quirref_has a0 x12.Tx 4 u0 w' _ e16 (hA0.cls0 hw)).mono (fun _ _ h => h.1))) ?_
              rcases b15 with _ | _
              ·
                replace h := iteF h
                refine L.take rfl ?_
                refine L.y rfl (Y.not rfl) ?_
                refine L.y rfl (Y.pickT rfl rfl) ?_
                refine L.nil ?_
                refine E.thenN ?_
                refine W.condT rfl ?_
                refine W.region ?_
                refine L.y rfl (Y.move rfl) ?_
                refine L.y rfl (Y.move rfl) ?_
                refine L.m (V := fun _ => pt b2 (0 + gx2.toNat * 1)) h rfl (Y.indexAM (l := gl6) Try.underlying76 sz3 rfl rfl) (fun x17 ex17 h => ?_)
                refine L.storeArM (q := 1) (row := I) (vs := [.int .i64 gx5]) (j := 0) (u1 := gx5) h sz3 rfl rfl rfl rfl rfl (all1 rfl all0) rfl (fun _ => rfl) (idxA_idx ex17) rfl rfl ?_
                intro l18 el18 h
                refine L.nil ?_
                refine E.blockN ?_
                refine E.thenN ?_
                refine W.region ?_
                refine L.m (V := fun x19 => .int .i64 x19) h rfl (Y.addM rfl rfl) (fun x19 ex19 h => ?_)
                refine L.y rfl (Y.move rfl) ?_
                refine L.nil ?_
                exact E.againJ ⟨x19, l18, rfl, rfl, by rw [hg2]; exact h⟩ (Nat.lt_succ_self _) ⟨rfl, rfl, rfl, rfl, rfl, rfl, rfl, rfl, trivial⟩ (fun _ hw => hw.sel [1, 2] (by decide) rfl)
              ·
                replace h := iteT h
                refine L.take rfl ?_
                refine L.y rfl (Y.not rfl) ?_
                refine L.y rfl (Y.pickT rfl rfl) ?_
                refine L.nil ?_
                refine E.thenN ?_
                refine W.condF rfl ?_
                refine W.skip ?_
                refine E.blockN ?_
                refine E.thenN ?_
                refine W.region ?_
                refine L.m (V := fun x20 => .int .i64 x20) h rfl (Y.addM rfl rfl) (fun x20 ex20 h => ?_)
                refine L.y rfl (Y.move rfl) ?_
                refine L.nil ?_
                exact E.againJ ⟨x20, gl6, rfl, rfl, by rw [hg2]; exact h⟩ (Nat.lt_succ_self _) ⟨rfl, rfl, rfl, rfl, rfl, rfl, rfl, rfl, trivial⟩ (fun _ hw => hw.sel [1, 2] (by decide) rfl)
        ·
          refine L.nil ?_
          refine E.thenN ?_
          refine W.seq ?_
          refine W.condF rfl ?_
          refine W.exit ?_
          refine E.thenX ?_
          refine E.KLX ?_
          refine E.blockX ?_
          refine E.blockN ?_
          exact E.joinJ ⟨gl6, rfl, rfl, h⟩ ⟨rfl, rfl, rfl, rfl, trivial⟩ (fun _ hw => hw)
      ·
        rintro _ _ ⟨gl4, rfl, rfl, h⟩
        rw [m56_quirref_Last_K2] at h
        refine W.region ?_
        refine L.m (V := fun x8 => .int .i64 x8) h rfl (Y.addM rfl rfl) (fun x8 ex8 h => ?_)
        refine L.y rfl (Y.move rfl) ?_
        refine L.nil ?_
        exact E.againJ ⟨x8, gl4, rfl, rfl, by rw [hg1]; exact h⟩ (Nat.lt_succ_self _) ⟨rfl, rfl, rfl, rfl, trivial⟩ (fun _ hw => hw)
    ·
      refine L.nil ?_
      refine E.thenN ?_
      refine W.seq ?_
      refine W.condF rfl ?_
      refine W.exit ?_
      refine E.thenX ?_
      refine E.KLX ?_
      refine E.blockX ?_
      exact E.joinJ ⟨gl3, rfl, rfl, h⟩ ⟨rfl, rfl, trivial⟩ (fun _ hw => hw)
  ·
    rintro _ _ ⟨gl1, rfl, rfl, h⟩
    rw [m56_quirref_Last_K1] at h
    refine W.seq ?_
    refine W.region ?_
    obtain ⟨_, en3, h⟩ := bind1S h
    obtain ⟨_, en3⟩ := arrN_some en3
    refine L.y rfl (Y.loadArAll (q := 0) (row := I) ag76 sz76 rfl rfl (fun _ => rfl) (by rw [en3])) ?_
    obtain ⟨_, en4, h⟩ := bind1S h
    obtain ⟨_, en4⟩ := arrN_some en4
    obtain ⟨_, en5, h⟩ := bind1S h
    obtain ⟨_, en5⟩ := arrN_some en5
    refine L.storeArW (i := 1) (row := I) en4 en5 rfl (fun _ => rfl) (plain_ints _) sz76 rfl rfl rfl ?_
    refine L.nil ?_
    refine E.thenN ?_
    refine W.ret ?_
    obtain ⟨_, en6, h⟩ := bind1S h
    obtain ⟨_, en6⟩ := arrN_some en6
    refine E.retR1 rfl (Rv.cellAr (i := 1) (row := I) ag76 sz76 rfl rfl (fun _ => rfl) (by rw [en6])) (fun w1 hw => ?_)
    obtain rfl := Option.some.inj h
    exact ⟨_, _, rfl, ⟨rfl, rfl⟩, hw.sel [] (by decide) rfl⟩
set_option maxRecDepth 100000 in
set_option maxHeartbeats 8000000 in
theorem w9_quirlaw_SeeSays (a0 : (List TOp)) (u0 : Value) (w : World) (r : Bool) (h : m9_quirlaw_SeeSays a0 = some r) (hA0 : At w u0 3 (a0.map TOp.row)) : Does Try.prog 9 [u0] w fun u m => u = .bool r ∧ m = [] := by
  rw [m9_quirlaw_SeeSays] at h
  refine body (n := 58) Try.func9 rfl rfl rfl (Cls.refl w) ?_
  refine W.seq ?_
  refine W.region ?_
  refine L.y rfl (Y.assign rfl) ?_
  refine L.nil ?_
  refine E.thenN ?_
  refine W.seq ?_
  refine W.region ?_
  refine L.y rfl (Y.move rfl) ?_
  obtain ⟨x1, e2, h⟩ := bind1S h
  refine L.y rfl (Y.does en51 rfl (fun w' hw => (w51_quirref_RunErr a0 u0 w' _ e2 (hA0.cls0 hw)).mono (fun _ _ h => h.1))) ?_
  refine L.y rfl (Y.assign rfl) ?_
  refine L.nil ?_
  refine E.thenN ?_
  refine W.seq ?_
  refine W.region ?_
  refine L.y rfl (Y.move rfl) ?_
  obtain ⟨l3, x5, e6, h⟩ := bind2S h
  refine L.does rfl en52 rfl (fun w' hw => w52_see_Reads a0 u0 w' _ e6 (hA0.cls0 hw)) ?_
  rintro _ _ ⟨v4, rfl, rfl⟩
  refine L.y rfl (Y.move rfl) ?_
  refine L.y rfl (Y.extract rfl rfl) ?_
  refine L.y rfl (Y.extract rfl rfl) ?_
  refine L.y rfl (Y.assign rfl) ?_
  refine L.y rfl (Y.assign rfl) ?_
  refine L.nil ?_
  refine E.thenN ?_
  refine W.seq ?_
  refine W.region ?_
  refine L.y rfl (Y.move rfl) ?_
  obtain ⟨x7, x8, e9, h⟩ := bind2S h
  refine L.y rfl (Y.does en53 rfl (fun w' hw => (w53_see_Last a0 u0 w' _ e9 (hA0.cls0 hw)).mono (fun _ _ h => h.1))) ?_
  refine L.y rfl (Y.move rfl) ?_
  refine L.y rfl (Y.extract rfl rfl) ?_
  refine L.y rfl (Y.extract rfl rfl) ?_
  refine L.alloc rfl ze76 ?_
  intro b10
  refine L.to (D := Cls w [] [.obj b10 (((List.replicate 20 (0 : Int)).map I).flatten) 76, .sl v4 81 2 (l3.map TSeen.row)]) (fun _ hw => by first | exact hw | simpa [I, B, SR] using hw) ?_
  obtain ⟨_, en11, h⟩ := bind1S h
  obtain ⟨_, en11⟩ := arrN_some en11
  obtain ⟨_, en12, h⟩ := bind1S h
  obtain ⟨_, en12⟩ := arrN_some en12
  refine L.storeArW (i := 0) (row := I) en11 en12 rfl (fun _ => rfl) (plain_ints _) sz76 rfl rfl rfl ?_
  refine L.y rfl (Y.assign rfl) ?_
  refine L.nil ?_
  refine E.thenN ?_
  refine W.seqJ (fun gs D => gs = [(0, u0), (4, v4), (5, .int .i64 x5), (6, pt b10 0), (7, .int .i64 x8)] ∧ D = Cls w [] [.obj b10 ((x7.map I).flatten) 76, .sl v4 81 2 (l3.map TSeen.row)] ∧ m9_quirlaw_SeeSays_K1 a0 l3 x5 x7 x8 = some r) ?_ ?_
  ·
    refine W.seq ?_
    refine W.region ?_
    refine L.y rfl (Y.move rfl) ?_
    refine L.ite h rfl (Y.neq rfl rfl) (fun c30 h => ?_) (fun c30 h => ?_)
    ·
      refine L.nil ?_
      refine E.thenN ?_
      refine W.condT rfl ?_
      refine W.seq ?_
      refine W.region ?_
      refine L.cutJ 8 (fun gs D => ∃ (gb1 : Bool), gs = [(3, .int .i64 x1), (6, pt b10 0), (7, .int .i64 x8), (29, .bool gb1)] ∧ D = Cls w [] [.obj b10 ((x7.map I).flatten) 76] ∧ m9_quirlaw_SeeSays_K2 x7 x8 x1 gb1 = some r) ?_ ?_
      ·
        refine L.y rfl (Y.move rfl) ?_
        refine L.y rfl (Y.lenM (g := TSeen.row) (l := l3) Try.underlying73 rfl (fun w hw => As.at_ (hw.get (i := 1) rfl))) ?_
        refine L.ite h rfl (Y.eql rfl rfl) (fun c35 h => ?_) (fun c35 h => ?_)
        ·
          refine L.y rfl (Y.move rfl) ?_
          refine L.take rfl ?_
          refine L.y rfl (Y.move rfl) ?_
          refine L.take rfl ?_
          refine L.y rfl (Y.move rfl) ?_
          refine L.take rfl ?_
          refine L.ite h rfl (Y.eql rfl rfl) (fun c36 h => ?_) (fun c36 h => ?_)
          ·
            refine L.y rfl (Y.pickT rfl rfl) ?_
            refine L.nil ?_
            exact E.joinJ ⟨true, rfl, rfl, h⟩ ⟨rfl, rfl, rfl, rfl, trivial⟩ (fun _ hw => hw.sel [0] (by decide) rfl)
          ·
            refine L.y rfl (Y.pickT rfl rfl) ?_
            refine L.nil ?_
            exact E.joinJ ⟨false, rfl, rfl, h⟩ ⟨rfl, rfl, rfl, rfl, trivial⟩ (fun _ hw => hw.sel [0] (by decide) rfl)
        ·
          refine L.y rfl (Y.move rfl) ?_
          refine L.pass rfl rfl (by nofun) ?_
          refine L.pass rfl rfl (by nofun) ?_
          refine L.pass rfl rfl (by nofun) ?_
          refine L.y rfl (Y.pickF rfl rfl) ?_
          refine L.nil ?_
          exact E.joinJ ⟨false, rfl, rfl, h⟩ ⟨rfl, rfl, rfl, rfl, trivial⟩ (fun _ hw => hw.sel [0] (by decide) rfl)
      ·
        rintro _ _ ⟨gb1, rfl, rfl, h⟩
        rw [m9_quirlaw_SeeSays_K2] at h
        rcases gb1 with _ | _
        ·
          replace h := iteF h
          refine L.y rfl (Y.move rfl) ?_
          refine L.pass rfl rfl (by nofun) ?_
          refine L.pass rfl rfl (by nofun) ?_
          refine L.pass rfl rfl (by nofun) ?_
          refine L.y rfl (Y.pickF rfl rfl) ?_
          refine L.y rfl (Y.move rfl) ?_
          refine L.pass rfl rfl (by nofun) ?_
          refine L.pass rfl rfl (by nofun) ?_
          refine L.pass rfl rfl (by nofun) ?_
          refine L.y rfl (Y.pickF rfl rfl) ?_
          refine L.y rfl (Y.assign rfl) ?_
          refine L.nil ?_
          refine E.thenN ?_
          refine W.ret ?_
          refine E.KSR ?_
          refine E.ret1 rfl rfl (fun w1 hw => ?_)
          obtain rfl := Option.some.inj h
          exact ⟨_, _, rfl, ⟨rfl, rfl⟩, hw.sel [] (by decide) rfl⟩
        ·
          replace h := iteT h
          refine L.y rfl (Y.move rfl) ?_
          refine L.take rfl ?_
          obtain ⟨_, en31, h⟩ := bind1S h
          obtain ⟨_, en31⟩ := arrN_some en31
          refine L.y rfl (Y.loadArAll (q := 0) (row := I) ag76 sz76 rfl rfl (fun _ => rfl) (by rw [en31])) ?_
          refine L.take rfl ?_
          refine L.y rfl (Y.build (cells := ((List.replicate 20 (0 : Int)).map I).flatten.toArray) rfl (by kernel_rfl)) ?_
          refine L.take rfl ?_
          obtain ⟨_, en32, h⟩ := bind1S h
          obtain ⟨_, en32⟩ := arrN_some en32
          obtain ⟨_, en33, h⟩ := bind1S h
          obtain ⟨_, en33⟩ := arrN_some en33
          refine L.ite h rfl (Y.eqlAr (row := I) egA76 ag76 Try.underlying76 isA76 hrA76 shA76 injA76 en32 en33 rfl rfl) (fun c34 h => ?_) (fun c34 h => ?_)
          ·
            refine L.y rfl (Y.pickT rfl rfl) ?_
            refine L.y rfl (Y.move rfl) ?_
            refine L.take rfl ?_
            refine L.y rfl (Y.move rfl) ?_
            refine L.take rfl ?_
            refine L.y rfl (Y.move rfl) ?_
            refine L.take rfl ?_
            refine L.y rfl (Y.eql rfl rfl) ?_
            refine L.y rfl (Y.pickT rfl rfl) ?_
            refine L.y rfl (Y.assign rfl) ?_
            refine L.nil ?_
            refine E.thenN ?_
            refine W.ret ?_
            refine E.KSR ?_
            refine E.ret1 rfl rfl (fun w1 hw => ?_)
            obtain rfl := Option.some.inj h
            exact ⟨_, _, rfl, ⟨rfl, rfl⟩, hw.sel [] (by decide) rfl⟩
          ·
            refine L.y rfl (Y.pickT rfl rfl) ?_
            refine L.y rfl (Y.move rfl) ?_
            refine L.pass rfl rfl (by nofun) ?_
            refine L.pass rfl rfl (by nofun) ?_
            refine L.pass rfl rfl (by nofun) ?_
            refine L.y rfl (Y.pickF rfl rfl) ?_
            refine L.y rfl (Y.assign rfl) ?_
            refine L.nil ?_
            refine E.thenN ?_
            refine W.ret ?_
            refine E.KSR ?_
            refine E.ret1 rfl rfl (fun w1 hw => ?_)
            obtain rfl := Option.some.inj h
            exact ⟨_, _, rfl, ⟨rfl, rfl⟩, hw.sel [] (by decide) rfl⟩
    ·
      refine L.nil ?_
      refine E.thenN ?_
      refine W.condF rfl ?_
      refine W.skip ?_
      exact E.joinJ ⟨rfl, rfl, h⟩ ⟨rfl, rfl, rfl, rfl, rfl, trivial⟩ (fun _ hw => hw)
  ·
    rintro _ _ ⟨rfl, rfl, h⟩
    rw [m9_quirlaw_SeeSays_K1] at h
    refine W.seq ?_
    refine W.drawn (k := 19) (D := Cls w [] [.obj b10 ((x7.map I).flatten) 76, .sl v4 81 2 (l3.map TSeen.row)]) rfl mixed (fun _ hw => hw.drew) (fun _ hw => hw) ?_
    refine V.y (i := 0) (Nx.of (by kernel_rfl) rfl) rfl rfl rfl (Y.move rfl) ?_
    refine V.y (i := 1) (Nx.of (by kernel_rfl) rfl) rfl rfl rfl (Y.move rfl) ?_
    refine V.eff (i := 2) (by kernel_rfl) rfl ?_
    obtain ⟨l18, e20, h⟩ := bind1S h
    refine L.does rfl en55 rfl (fun w' hw => w55_quirref_Reads a0 u0 w' _ e20 (hA0.cls0 hw)) ?_
    rintro v19 _ ⟨_, rfl, rfl⟩
    refine L.nil ?_
    refine E.toV (D' := Cls w [] [.obj b10 ((x7.map I).flatten) 76, .sl v4 81 2 (l3.map TSeen.row)]) (fun _ hw => hw) (fun _ hw => hw.sel [1, 2] (by decide) rfl) ?_
    refine V.eff (i := 3) (by kernel_rfl) rfl ?_
    obtain ⟨b21, e22, h⟩ := bind1S h
    refine L.y rfl (Y.does en54 rfl (fun w' hw => (w54_api_Seen l3 l18 v4 v19 w' _ e22 (As.at_ (hw.get (i := 2) rfl)) (As.at_ (hw.get (i := 0) rfl))).mono (fun _ _ h => h.1))) ?_
    rcases b21 with _ | _
    ·
      replace h := iteF h
      refine L.nil ?_
      refine E.toV (D' := Cls w [] [.obj b10 ((x7.map I).flatten) 76, .sl v4 81 2 (l3.map TSeen.row)]) (fun _ hw => hw) (fun _ hw => hw.sel [1, 2] (by decide) rfl) ?_
      refine V.y (i := 4) (Nx.of (by kernel_rfl) rfl) rfl rfl rfl (Y.move rfl) ?_
      refine V.pass (i := 5) (Nx.of (by kernel_rfl) rfl) rfl rfl ?_
      refine V.pass (i := 6) (Nx.of (by kernel_rfl) rfl) rfl rfl ?_
      refine V.y (i := 7) (Nx.of (by kernel_rfl) rfl) rfl rfl rfl (Y.pickF rfl rfl) ?_
      refine V.y (i := 8) (Nx.of (by kernel_rfl) rfl) rfl rfl rfl (Y.move rfl) ?_
      refine V.pass (i := 9) (Nx.of (by kernel_rfl) rfl) rfl rfl ?_
      refine V.pass (i := 10) (Nx.of (by kernel_rfl) rfl) rfl rfl ?_
      refine V.pass (i := 11) (Nx.of (by kernel_rfl) rfl) rfl rfl ?_
      refine V.pass (i := 12) (Nx.of (by kernel_rfl) rfl) rfl rfl ?_
      refine V.y (i := 13) (Nx.of (by kernel_rfl) rfl) rfl rfl rfl (Y.pickF rfl rfl) ?_
      refine V.y (i := 14) (Nx.of (by kernel_rfl) rfl) rfl rfl rfl (Y.move rfl) ?_
      refine V.pass (i := 15) (Nx.of (by kernel_rfl) rfl) rfl rfl ?_
      refine V.pass (i := 16) (Nx.of (by kernel_rfl) rfl) rfl rfl ?_
      refine V.y (i := 17) (Nx.of (by kernel_rfl) rfl) rfl rfl rfl (Y.pickF rfl rfl) ?_
      refine V.y (i := 18) (Nx.of (by kernel_rfl) rfl) rfl rfl rfl (Y.assign rfl) ?_
      refine V.done (by kernel_rfl) ?_
      refine E.thenN ?_
      refine W.ret ?_
      refine E.ret1 rfl rfl (fun w1 hw => ?_)
      obtain rfl := Option.some.inj h
      exact ⟨_, _, rfl, ⟨rfl, rfl⟩, hw.sel [] (by decide) rfl⟩
    ·
      replace h := iteT h
      refine L.nil ?_
      refine E.toV (D' := Cls w [] [.obj b10 ((x7.map I).flatten) 76, .sl v4 81 2 (l3.map TSeen.row)]) (fun _ hw => hw) (fun _ hw => hw.sel [1, 2] (by decide) rfl) ?_
      refine V.y (i := 4) (Nx.of (by kernel_rfl) rfl) rfl rfl rfl (Y.move rfl) ?_
      refine V.y (i := 5) (Nx.of (by kernel_rfl) rfl) rfl rfl rfl (Y.move rfl) ?_
      refine V.ite (i := 6) h (Nx.of (by kernel_rfl) rfl) rfl rfl rfl (Y.eql rfl rfl) (fun c23 h => ?_) (fun c23 h => ?_)
      ·
        refine V.y (i := 7) (Nx.of (by kernel_rfl) rfl) rfl rfl rfl (Y.pickT rfl rfl) ?_
        refine V.y (i := 8) (Nx.of (by kernel_rfl) rfl) rfl rfl rfl (Y.move rfl) ?_
        obtain ⟨_, en24, h⟩ := bind1S h
        obtain ⟨_, en24⟩ := arrN_some en24
        refine V.y (i := 9) (Nx.of (by kernel_rfl) rfl) rfl rfl rfl (Y.loadArAll (q := 0) (row := I) ag76 sz76 rfl rfl (fun _ => rfl) (by rw [en24])) ?_
        refine V.y (i := 10) (Nx.of (by kernel_rfl) rfl) rfl rfl rfl (Y.move rfl) ?_
        refine V.eff (i := 11) (by kernel_rfl) rfl ?_
        refine L.take rfl ?_
        obtain ⟨x25, e26, h⟩ := bind1S h
        refine L.y rfl (Y.does en56 rfl (fun w' hw => (w56_quirref_Last a0 u0 w' _ e26 (hA0.cls0 hw)).mono (fun _ _ h => h.1))) ?_
        refine L.nil ?_
        refine E.toV (D' := Cls w [] [.obj b10 ((x7.map I).flatten) 76, .sl v4 81 2 (l3.map TSeen.row)]) (fun _ hw => hw) (fun _ hw => hw.sel [1, 2] (by decide) rfl) ?_
        obtain ⟨_, en27, h⟩ := bind1S h
        obtain ⟨_, en27⟩ := arrN_some en27
        obtain ⟨_, en28, h⟩ := bind1S h
        obtain ⟨_, en28⟩ := arrN_some en28
        refine V.ite (i := 12) h (Nx.of (by kernel_rfl) rfl) rfl rfl rfl (Y.eqlAr (row := I) egA76 ag76 Try.underlying76 isA76 hrA76 shA76 injA76 en27 en28 rfl rfl) (fun c29 h => ?_) (fun c29 h => ?_)
        ·
          refine V.y (i := 13) (Nx.of (by kernel_rfl) rfl) rfl rfl rfl (Y.pickT rfl rfl) ?_
          refine V.y (i := 14) (Nx.of (by kernel_rfl) rfl) rfl rfl rfl (Y.move rfl) ?_
          refine V.y (i := 15) (Nx.of (by kernel_rfl) rfl) rfl rfl rfl (Y.move rfl) ?_
          refine V.y (i := 16) (Nx.of (by kernel_rfl) rfl) rfl rfl rfl (Y.eql rfl rfl) ?_
          refine V.y (i := 17) (Nx.of (by kernel_rfl) rfl) rfl rfl rfl (Y.pickT rfl rfl) ?_
          refine V.y (i := 18) (Nx.of (by kernel_rfl) rfl) rfl rfl rfl (Y.assign rfl) ?_
          refine V.done (by kernel_rfl) ?_
          refine E.thenN ?_
          refine W.ret ?_
          refine E.ret1 rfl rfl (fun w1 hw => ?_)
          obtain rfl := Option.some.inj h
          exact ⟨_, _, rfl, ⟨rfl, rfl⟩, hw.sel [] (by decide) rfl⟩
        ·
          refine V.y (i := 13) (Nx.of (by kernel_rfl) rfl) rfl rfl rfl (Y.pickT rfl rfl) ?_
          refine V.y (i := 14) (Nx.of (by kernel_rfl) rfl) rfl rfl rfl (Y.move rfl) ?_
          refine V.pass (i := 15) (Nx.of (by kernel_rfl) rfl) rfl rfl ?_
          refine V.pass (i := 16) (Nx.of (by kernel_rfl) rfl) rfl rfl ?_
          refine V.y (i := 17) (Nx.of (by kernel_rfl) rfl) rfl rfl rfl (Y.pickF rfl rfl) ?_
          refine V.y (i := 18) (Nx.of (by kernel_rfl) rfl) rfl rfl rfl (Y.assign rfl) ?_
          refine V.done (by kernel_rfl) ?_
          refine E.thenN ?_
          refine W.ret ?_
          refine E.ret1 rfl rfl (fun w1 hw => ?_)
          obtain rfl := Option.some.inj h
          exact ⟨_, _, rfl, ⟨rfl, rfl⟩, hw.sel [] (by decide) rfl⟩
      ·
        refine V.y (i := 7) (Nx.of (by kernel_rfl) rfl) rfl rfl rfl (Y.pickT rfl rfl) ?_
        refine V.y (i := 8) (Nx.of (by kernel_rfl) rfl) rfl rfl rfl (Y.move rfl) ?_
        refine V.pass (i := 9) (Nx.of (by kernel_rfl) rfl) rfl rfl ?_
        refine V.pass (i := 10) (Nx.of (by kernel_rfl) rfl) rfl rfl ?_
        refine V.pass (i := 11) (Nx.of (by kernel_rfl) rfl) rfl rfl ?_
        refine V.pass (i := 12) (Nx.of (by kernel_rfl) rfl) rfl rfl ?_
        refine V.y (i := 13) (Nx.of (by kernel_rfl) rfl) rfl rfl rfl (Y.pickF rfl rfl) ?_
        refine V.y (i := 14) (Nx.of (by kernel_rfl) rfl) rfl rfl rfl (Y.move rfl) ?_
        refine V.pass (i := 15) (Nx.of (by kernel_rfl) rfl) rfl rfl ?_
        refine V.pass (i := 16) (Nx.of (by kernel_rfl) rfl) rfl rfl ?_
        refine V.y (i := 17) (Nx.of (by kernel_rfl) rfl) rfl rfl rfl (Y.pickF rfl rfl) ?_
        refine V.y (i := 18) (Nx.of (by kernel_rfl) rfl) rfl rfl rfl (Y.assign rfl) ?_
        refine V.done (by kernel_rfl) ?_
        refine E.thenN ?_
        refine W.ret ?_
        refine E.ret1 rfl rfl (fun w1 hw => ?_)
        obtain rfl := Option.some.inj h
        exact ⟨_, _, rfl, ⟨rfl, rfl⟩, hw.sel [] (by decide) rfl⟩
end Go.Proofs.Ytfmgjigdebofaaa
