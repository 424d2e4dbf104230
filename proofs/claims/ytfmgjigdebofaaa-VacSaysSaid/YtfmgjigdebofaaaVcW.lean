/-
  Walks, printed by a program of mine.
  Conditions: none.
-/
import Derived.Test.YtfmgjigdebofaaaVcM
import Derived.Test.YtfmgjigdebofaaaChecked
import Derived.KernelRfl
namespace Go.Proofs.Ytfmgjigdebofaaa
open Go.S
set_option linter.unusedVariables false
set_option linter.unusedSimpArgs false
theorem mixed : Try.prog.follows .mixedOrders = true := by kernel_rfl
theorem ag3 : aggB Try.prog 3 false = true := by kernel_rfl
theorem ag9 : aggB Try.prog 9 false = true := by kernel_rfl
theorem ag60 : aggB Try.prog 60 false = true := by kernel_rfl
theorem ag68 : aggB Try.prog 68 true = true := by kernel_rfl
theorem el3 : elemB Try.prog 3 1 8 = true := by kernel_rfl
theorem el68 : elemB Try.prog 68 2 24 = true := by kernel_rfl
theorem en44 : entB Try.prog 44 = true := by kernel_rfl
theorem en45 : entB Try.prog 45 = true := by kernel_rfl
theorem en46 : entB Try.prog 46 = true := by kernel_rfl
theorem en47 : entB Try.prog 47 = true := by kernel_rfl
theorem en48 : entB Try.prog 48 = true := by kernel_rfl
theorem en49 : entB Try.prog 49 = true := by kernel_rfl
theorem en50 : entB Try.prog 50 = true := by kernel_rfl
theorem en78 : entB Try.prog 78 = true := by kernel_rfl
theorem en104 : entB Try.prog 104 = true := by kernel_rfl
theorem en105 : entB Try.prog 105 = true := by kernel_rfl
theorem en106 : entB Try.prog 106 = true := by kernel_rfl
theorem en133 : entB Try.prog 133 = true := by kernel_rfl
theorem en146 : entB Try.prog 146 = true := by kernel_rfl
theorem en147 : entB Try.prog 147 = true := by kernel_rfl
theorem fd68_0 : fieldB Try.prog 68 0 0 = true := by kernel_rfl
theorem fd68_1 : fieldB Try.prog 68 1 1 = true := by kernel_rfl
theorem sz3 : szB Try.prog 3 1 = true := by kernel_rfl
theorem sz68 : szB Try.prog 68 2 = true := by kernel_rfl
theorem ze3 : zeroB Try.prog 3 = some [.int .i64 0] := by kernel_rfl
theorem ze68 : zeroB Try.prog 68 = some [.int .i64 0, .string ⟨#[]⟩] := by kernel_rfl
theorem plain_TVersion (l : List TVersion) : Plain (l.map TVersion.row) := by
  intro r hr u hu
  obtain ⟨x, _, rfl⟩ := List.mem_map.1 hr
  simp only [TVersion.row, List.mem_cons, List.not_mem_nil, or_false] at hu
  rcases hu with rfl | rfl <;> rfl
theorem eg68 : Try.prog.eqGuardType Try.prog.depth 68 = false := by kernel_rfl
theorem sh68 (x : TVersion) : shB Try.prog 5 68 x.row = true := by kernel_rfl
theorem inj68 (x y : TVersion) (h : x.row = y.row) : x = y := by
  cases x; cases y
  simpa [TVersion.row, st_inj] using h
set_option maxRecDepth 100000 in
set_option maxHeartbeats 8000000 in
theorem w44_quirref_VacErr (a0 : (List TVersion)) (a1 : (List Int)) (a2 : Int) (u0 : Value) (u1 : Value) (w : World) (r : Int) (h : m44_quirref_VacErr a0 a1 a2 = some r) (hA0 : At w u0 2 (a0.map TVersion.row)) (hA1 : At w u1 1 (a1.map I)) : Does Try.prog 44 [u0, u1, .int .i64 a2] w fun u m => u = .int .i64 r ∧ m = [] := by
  rw [m44_quirref_VacErr] at h
  refine body (n := 67) Try.func44 rfl rfl rfl (Cls.refl w) ?_
  refine W.seq ?_
  refine W.region ?_
  refine L.y rfl (Y.assign rfl) ?_
  refine L.nil ?_
  refine E.thenN ?_
  refine W.seqJ (fun gs D => gs = [(0, u0), (1, u1), (2, .int .i64 a2)] ∧ D = Cls w [] [] ∧ m44_quirref_VacErr_K1 a2 a0 a1 = some r) ?_ ?_
  ·
    refine W.seq ?_
    refine W.region ?_
    refine L.y rfl (Y.move rfl) ?_
    refine L.y rfl (Y.lenM (g := TVersion.row) (l := a0) Try.underlying60 rfl (fun w' hw => hA0.cls0 hw)) ?_
    refine L.ite h rfl (Y.gtr rfl rfl) (fun c17 h => ?_) (fun c17 h => ?_)
    ·
      refine L.y rfl (Y.move rfl) ?_
      refine L.pass rfl rfl (by nofun) ?_
      refine L.pass rfl rfl (by nofun) ?_
      refine L.pass rfl rfl (by nofun) ?_
      refine L.y rfl (Y.pickT rfl rfl) ?_
      refine L.nil ?_
      refine E.thenN ?_
      refine W.condT rfl ?_
      refine W.seq ?_
      refine W.region ?_
      refine L.y rfl (Y.assign rfl) ?_
      refine L.nil ?_
      refine E.thenN ?_
      refine W.ret ?_
      refine E.KSR ?_
      refine E.ret1 rfl rfl (fun w1 hw => ?_)
      obtain rfl := Option.some.inj h
      exact ⟨_, _, rfl, ⟨rfl, rfl⟩, hw⟩
    ·
      refine L.y rfl (Y.move rfl) ?_
      refine L.take rfl ?_
      refine L.y rfl (Y.move rfl) ?_
      refine L.take rfl ?_
      refine L.y rfl (Y.lenM (g := I) (l := a1) Try.underlying24 rfl (fun w' hw => hA1.cls0 hw)) ?_
      refine L.take rfl ?_
      refine L.ite h rfl (Y.gtr rfl rfl) (fun c18 h => ?_) (fun c18 h => ?_)
      ·
        refine L.y rfl (Y.pickF rfl rfl) ?_
        refine L.nil ?_
        refine E.thenN ?_
        refine W.condT rfl ?_
        refine W.seq ?_
        refine W.region ?_
        refine L.y rfl (Y.assign rfl) ?_
        refine L.nil ?_
        refine E.thenN ?_
        refine W.ret ?_
        refine E.KSR ?_
        refine E.ret1 rfl rfl (fun w1 hw => ?_)
        obtain rfl := Option.some.inj h
        exact ⟨_, _, rfl, ⟨rfl, rfl⟩, hw⟩
      ·
        refine L.y rfl (Y.pickF rfl rfl) ?_
        refine L.nil ?_
        refine E.thenN ?_
        refine W.condF rfl ?_
        refine W.skip ?_
        exact E.joinJ ⟨rfl, rfl, h⟩ ⟨rfl, rfl, rfl, trivial⟩ (fun _ hw => hw)
  ·
    rintro _ _ ⟨rfl, rfl, h⟩
    rw [m44_quirref_VacErr_K1] at h
    refine W.seqJ (fun gs D => gs = [(0, u0), (1, u1), (2, .int .i64 a2)] ∧ D = Cls w [] [] ∧ m44_quirref_VacErr_K2 a0 a2 a1 = some r) ?_ ?_
    ·
      refine W.seq ?_
      refine W.region ?_
      refine L.y rfl (Y.move rfl) ?_
      refine L.ite h rfl (Y.lss rfl rfl) (fun c16 h => ?_) (fun c16 h => ?_)
      ·
        refine L.nil ?_
        refine E.thenN ?_
        refine W.condT rfl ?_
        refine W.seq ?_
        refine W.region ?_
        refine L.y rfl (Y.assign rfl) ?_
        refine L.nil ?_
        refine E.thenN ?_
        refine W.ret ?_
        refine E.KSR ?_
        refine E.ret1 rfl rfl (fun w1 hw => ?_)
        obtain rfl := Option.some.inj h
        exact ⟨_, _, rfl, ⟨rfl, rfl⟩, hw⟩
      ·
        refine L.nil ?_
        refine E.thenN ?_
        refine W.condF rfl ?_
        refine W.skip ?_
        exact E.joinJ ⟨rfl, rfl, h⟩ ⟨rfl, rfl, rfl, trivial⟩ (fun _ hw => hw)
    ·
      rintro _ _ ⟨rfl, rfl, h⟩
      rw [m44_quirref_VacErr_K2] at h
      refine W.seqJ (fun gs D => gs = [(1, u1), (2, .int .i64 a2)] ∧ D = Cls w [] [] ∧ m44_quirref_VacErr_K3 a1 a2 = some r) ?_ ?_
      ·
        refine W.seq ?_
        refine W.region ?_
        refine L.y rfl (Y.move rfl) ?_
        refine L.y rfl (Y.lenM (g := TVersion.row) (l := a0) Try.underlying60 rfl (fun w' hw => hA0.cls0 hw)) ?_
        refine L.y rfl (Y.move rfl) ?_
        refine L.nil ?_
        refine E.thenN ?_
        refine W.block ?_
        refine W.loopJ (fun m gs D => ∃ (gx2 : Int), gs = [(0, u0), (1, u1), (2, .int .i64 a2), (21, u0), (22, .int .i64 (a0.length : Int)), (23, .int .i64 gx2)] ∧ D = Cls w [] [] ∧ m44_quirref_VacErr_L2 a0 a2 a1 m gx2 = some r) ⟨0, rfl, rfl, h⟩ ⟨rfl, rfl, rfl, rfl, rfl, rfl, trivial⟩ (fun _ hw => hw) ?_
        rintro m _ _ ⟨gx2, rfl, rfl, h⟩
        rcases m with _ | m
        · rw [m44_quirref_VacErr_L2] at h; cases h
        rw [m44_quirref_VacErr_L2] at h
        generalize hg2 : m44_quirref_VacErr_L2 a0 a2 a1 m = go2 at h
        rw [m44_quirref_VacErr_L2B] at h
        refine W.seq ?_
        refine W.region ?_
        refine L.ite h rfl (Y.lss rfl rfl) (fun c6 h => ?_) (fun c6 h => ?_)
        ·
          refine L.nil ?_
          refine E.thenN ?_
          refine W.seq ?_
          refine W.condT rfl ?_
          refine W.skip ?_
          refine E.thenN ?_
          refine W.seq ?_
          refine W.block ?_
          refine W.seq ?_
          refine W.region ?_
          refine L.y rfl (Y.move rfl) ?_
          refine L.m (V := fun _ => el u0 (gx2.toNat * 2)) h rfl (Y.indexM (g := TVersion.row) (l := a0) Try.underlying60 sz68 rfl rfl (fun w' hw => hA0.cls0 hw)) (fun x7 ex7 h => ?_)
          refine L.y rfl (Y.loadEN (r := [.int .i64 x7.At, st x7.Text]) ag68 sz68 rfl (fun w' hw => hA0.cls0 hw) (idx_map ex7) rfl) ?_
          refine L.alloc rfl ze68 ?_
          intro b8
          refine L.y rfl (Y.assign rfl) ?_
          refine L.store (i := 0) sz68 rfl rfl rfl rfl (by simp [Value.oneCell', Value.cells, st]) rfl (Nat.le_of_ble_eq_true rfl) ?_
          refine L.nil ?_
          refine E.thenN ?_
          refine W.seq ?_
          refine W.quietC mixed (by kernel_rfl) (fun _ hw => hw.drew) (fun hC => ?_)
          refine U.cutJ hC 18 (fun gs => ∃ (gb3 : Bool), gs = [(0, u0), (1, u1), (2, .int .i64 a2), (8, pt b8 0), (21, u0), (22, .int .i64 (a0.length : Int)), (23, .int .i64 gx2), (45, .bool gb3)] ∧ m44_quirref_VacErr_K5 a2 x7 gx2 go2 gb3 = some r) ?_ ?_
          ·
            refine U.y rfl (Y.fieldP fd68_0 rfl) ?_
            refine U.y rfl (Y.loadP (i := 0) ag3 rfl rfl rfl) ?_
            refine U.ite h rfl (Y.lss rfl rfl) (fun c11 h => ?_) (fun c11 h => ?_)
            ·
              refine U.y rfl (Y.move rfl) ?_
              refine U.pass rfl rfl (by nofun) ?_
              refine U.pass rfl rfl (by nofun) ?_
              refine U.pass rfl rfl (by nofun) ?_
              refine U.pass rfl rfl (by nofun) ?_
              refine U.pass rfl rfl (by nofun) ?_
              refine U.pass rfl rfl (by nofun) ?_
              refine U.pass rfl rfl (by nofun) ?_
              refine U.pass rfl rfl (by nofun) ?_
              refine U.pass rfl rfl (by nofun) ?_
              refine U.pass rfl rfl (by nofun) ?_
              refine U.pass rfl rfl (by nofun) ?_
              refine U.pass rfl rfl (by nofun) ?_
              refine U.pass rfl rfl (by nofun) ?_
              refine U.y rfl (Y.pickT rfl rfl) ?_
              refine U.nil ?_
              exact E.joinU ⟨true, rfl, h⟩ ⟨rfl, rfl, rfl, rfl, rfl, rfl, rfl, rfl, trivial⟩
            ·
              refine U.y rfl (Y.move rfl) ?_
              refine U.take rfl ?_
              refine U.y rfl (Y.move rfl) ?_
              refine U.take rfl ?_
              refine U.ite h rfl (Y.gtr rfl rfl) (fun c12 h => ?_) (fun c12 h => ?_)
              ·
                refine U.take rfl ?_
                refine U.y rfl (Y.move rfl) ?_
                refine U.take rfl ?_
                refine U.y rfl (Y.fieldP fd68_0 rfl) ?_
                refine U.take rfl ?_
                refine U.y rfl (Y.loadP (i := 0) ag3 rfl rfl rfl) ?_
                refine U.take rfl ?_
                refine U.y rfl (Y.move rfl) ?_
                refine U.take rfl ?_
                refine U.y rfl (Y.move rfl) ?_
                refine U.take rfl ?_
                refine U.m (V := fun x13 => .int .i64 x13) h rfl (Y.subM rfl rfl) (fun x13 ex13 h => ?_)
                refine U.take rfl ?_
                refine U.m (V := fun _ => el u0 (x13.toNat * 2)) h rfl (Y.indexM (g := TVersion.row) (l := a0) Try.underlying60 sz68 rfl rfl (fun w' hw => hA0.cls0 hw)) (fun x14 ex14 h => ?_)
                refine U.take rfl ?_
                refine U.y rfl (Y.fieldE fd68_0 rfl) ?_
                refine U.take rfl ?_
                refine U.y rfl (Y.loadE (u := .int .i64 x14.At) ag3 rfl (fun w' hw => hA0.cls0 hw) (idx_map ex14) rfl) ?_
                refine U.take rfl ?_
                refine U.ite h rfl (Y.leq rfl rfl) (fun c15 h => ?_) (fun c15 h => ?_)
                ·
                  refine U.take rfl ?_
                  refine U.y rfl (Y.pickT rfl rfl) ?_
                  refine U.y rfl (Y.pickF rfl rfl) ?_
                  refine U.nil ?_
                  exact E.joinU ⟨true, rfl, h⟩ ⟨rfl, rfl, rfl, rfl, rfl, rfl, rfl, rfl, trivial⟩
                ·
                  refine U.take rfl ?_
                  refine U.y rfl (Y.pickT rfl rfl) ?_
                  refine U.y rfl (Y.pickF rfl rfl) ?_
                  refine U.nil ?_
                  exact E.joinU ⟨false, rfl, h⟩ ⟨rfl, rfl, rfl, rfl, rfl, rfl, rfl, rfl, trivial⟩
              ·
                refine U.take rfl ?_
                refine U.y rfl (Y.move rfl) ?_
                refine U.pass rfl rfl (by nofun) ?_
                refine U.pass rfl rfl (by nofun) ?_
                refine U.pass rfl rfl (by nofun) ?_
                refine U.pass rfl rfl (by nofun) ?_
                refine U.pass rfl rfl (by nofun) ?_
                refine U.pass rfl rfl (by nofun) ?_
                refine U.pass rfl rfl (by nofun) ?_
                refine U.pass rfl rfl (by nofun) ?_
                refine U.pass rfl rfl (by nofun) ?_
                refine U.take rfl ?_
                refine U.y rfl (Y.pickF rfl rfl) ?_
                refine U.y rfl (Y.pickF rfl rfl) ?_
                refine U.nil ?_
                exact E.joinU ⟨false, rfl, h⟩ ⟨rfl, rfl, rfl, rfl, rfl, rfl, rfl, rfl, trivial⟩
          ·
            rintro _ ⟨gb3, rfl, h⟩
            rw [m44_quirref_VacErr_K5] at h
            rcases gb3 with _ | _
            ·
              replace h := iteF h
              refine U.y rfl (Y.move rfl) ?_
              refine U.take rfl ?_
              refine U.y rfl (Y.fieldP fd68_0 rfl) ?_
              refine U.take rfl ?_
              refine U.y rfl (Y.loadP (i := 0) ag3 rfl rfl rfl) ?_
              refine U.take rfl ?_
              refine U.y rfl (Y.move rfl) ?_
              refine U.take rfl ?_
              refine U.ite h rfl (Y.gtr rfl rfl) (fun c9 h => ?_) (fun c9 h => ?_)
              ·
                refine U.y rfl (Y.pickF rfl rfl) ?_
                refine U.nil ?_
                refine E.thenN ?_
                refine W.condT rfl ?_
                refine W.seq ?_
                refine W.region ?_
                refine L.y rfl (Y.assign rfl) ?_
                refine L.nil ?_
                refine E.thenN ?_
                refine W.ret ?_
                refine E.blockR ?_
                refine E.thenR ?_
                refine E.KLR ?_
                refine E.blockR ?_
                refine E.KSR ?_
                refine E.ret1 rfl rfl (fun w1 hw => ?_)
                obtain rfl := Option.some.inj h
                exact ⟨_, _, rfl, ⟨rfl, rfl⟩, hw.sel [] (by decide) rfl⟩
              ·
                refine U.y rfl (Y.pickF rfl rfl) ?_
                refine U.nil ?_
                refine E.thenN ?_
                refine W.condF rfl ?_
                refine W.skip ?_
                refine E.blockN ?_
                refine E.thenN ?_
                refine W.region ?_
                refine L.m (V := fun x10 => .int .i64 x10) h rfl (Y.addM rfl rfl) (fun x10 ex10 h => ?_)
                refine L.y rfl (Y.move rfl) ?_
                refine L.nil ?_
                exact E.againJ ⟨x10, rfl, rfl, by rw [hg2]; exact h⟩ (Nat.lt_succ_self _) ⟨rfl, rfl, rfl, rfl, rfl, rfl, trivial⟩ (fun _ hw => hw.sel [] (by decide) rfl)
            ·
              replace h := iteT h
              refine U.y rfl (Y.move rfl) ?_
              refine U.pass rfl rfl (by nofun) ?_
              refine U.pass rfl rfl (by nofun) ?_
              refine U.pass rfl rfl (by nofun) ?_
              refine U.pass rfl rfl (by nofun) ?_
              refine U.y rfl (Y.pickT rfl rfl) ?_
              refine U.nil ?_
              refine E.thenN ?_
              refine W.condT rfl ?_
              refine W.seq ?_
              refine W.region ?_
              refine L.y rfl (Y.assign rfl) ?_
              refine L.nil ?_
              refine E.thenN ?_
              refine W.ret ?_
              refine E.blockR ?_
              refine E.thenR ?_
              refine E.KLR ?_
              refine E.blockR ?_
              refine E.KSR ?_
              refine E.ret1 rfl rfl (fun w1 hw => ?_)
              obtain rfl := Option.some.inj h
              exact ⟨_, _, rfl, ⟨rfl, rfl⟩, hw.sel [] (by decide) rfl⟩
        ·
          refine L.nil ?_
          refine E.thenN ?_
          refine W.seq ?_
          refine W.condF rfl ?_
          refine W.exit ?_
          refine E.thenX ?_
          refine E.KLX ?_
          refine E.blockX ?_
          exact E.joinJ ⟨rfl, rfl, h⟩ ⟨rfl, rfl, trivial⟩ (fun _ hw => hw)
      ·
        rintro _ _ ⟨rfl, rfl, h⟩
        rw [m44_quirref_VacErr_K3] at h
        refine W.seqJ (fun gs D => gs = [] ∧ D = Cls w [] [] ∧ m44_quirref_VacErr_K4 = some r) ?_ ?_
        ·
          refine W.seq ?_
          refine W.region ?_
          refine L.y rfl (Y.move rfl) ?_
          refine L.y rfl (Y.lenM (g := I) (l := a1) Try.underlying24 rfl (fun w' hw => hA1.cls0 hw)) ?_
          refine L.y rfl (Y.move rfl) ?_
          refine L.nil ?_
          refine E.thenN ?_
          refine W.block ?_
          refine W.loopJ (fun m gs D => ∃ (gx1 : Int), gs = [(2, .int .i64 a2), (53, u1), (54, .int .i64 (a1.length : Int)), (55, .int .i64 gx1)] ∧ D = Cls w [] [] ∧ m44_quirref_VacErr_L1 a1 a2 m gx1 = some r) ⟨0, rfl, rfl, h⟩ ⟨rfl, rfl, rfl, rfl, trivial⟩ (fun _ hw => hw) ?_
          rintro m _ _ ⟨gx1, rfl, rfl, h⟩
          rcases m with _ | m
          · rw [m44_quirref_VacErr_L1] at h; cases h
          rw [m44_quirref_VacErr_L1] at h
          generalize hg1 : m44_quirref_VacErr_L1 a1 a2 m = go1 at h
          rw [m44_quirref_VacErr_L1B] at h
          refine W.seq ?_
          refine W.region ?_
          refine L.ite h rfl (Y.lss rfl rfl) (fun c1 h => ?_) (fun c1 h => ?_)
          ·
            refine L.nil ?_
            refine E.thenN ?_
            refine W.seq ?_
            refine W.condT rfl ?_
            refine W.skip ?_
            refine E.thenN ?_
            refine W.seq ?_
            refine W.block ?_
            refine W.seq ?_
            refine W.region ?_
            refine L.m (V := fun _ => el u1 (gx1.toNat * 1)) h rfl (Y.indexM (g := I) (l := a1) Try.underlying24 sz3 rfl rfl (fun w' hw => hA1.cls0 hw)) (fun x2 ex2 h => ?_)
            refine L.y rfl (Y.loadE1 (u := .int .i64 x2) ag3 rfl (fun w' hw => hA1.cls0 hw) (idx_map ex2)) ?_
            refine L.y rfl (Y.assign rfl) ?_
            refine L.nil ?_
            refine E.thenN ?_
            refine W.seq ?_
            refine W.region ?_
            refine L.y rfl (Y.move rfl) ?_
            refine L.ite h rfl (Y.lss rfl rfl) (fun c3 h => ?_) (fun c3 h => ?_)
            ·
              refine L.y rfl (Y.move rfl) ?_
              refine L.pass rfl rfl (by nofun) ?_
              refine L.pass rfl rfl (by nofun) ?_
              refine L.pass rfl rfl (by nofun) ?_
              refine L.y rfl (Y.pickT rfl rfl) ?_
              refine L.nil ?_
              refine E.thenN ?_
              refine W.condT rfl ?_
              refine W.seq ?_
              refine W.region ?_
              refine L.y rfl (Y.assign rfl) ?_
              refine L.nil ?_
              refine E.thenN ?_
              refine W.ret ?_
              refine E.blockR ?_
              refine E.thenR ?_
              refine E.KLR ?_
              refine E.blockR ?_
              refine E.KSR ?_
              refine E.ret1 rfl rfl (fun w1 hw => ?_)
              obtain rfl := Option.some.inj h
              exact ⟨_, _, rfl, ⟨rfl, rfl⟩, hw⟩
            ·
              refine L.y rfl (Y.move rfl) ?_
              refine L.take rfl ?_
              refine L.y rfl (Y.move rfl) ?_
              refine L.take rfl ?_
              refine L.y rfl (Y.move rfl) ?_
              refine L.take rfl ?_
              refine L.ite h rfl (Y.gtr rfl rfl) (fun c4 h => ?_) (fun c4 h => ?_)
              ·
                refine L.y rfl (Y.pickF rfl rfl) ?_
                refine L.nil ?_
                refine E.thenN ?_
                refine W.condT rfl ?_
                refine W.seq ?_
                refine W.region ?_
                refine L.y rfl (Y.assign rfl) ?_
                refine L.nil ?_
                refine E.thenN ?_
                refine W.ret ?_
                refine E.blockR ?_
                refine E.thenR ?_
                refine E.KLR ?_
                refine E.blockR ?_
                refine E.KSR ?_
                refine E.ret1 rfl rfl (fun w1 hw => ?_)
                obtain rfl := Option.some.inj h
                exact ⟨_, _, rfl, ⟨rfl, rfl⟩, hw⟩
              ·
                refine L.y rfl (Y.pickF rfl rfl) ?_
                refine L.nil ?_
                refine E.thenN ?_
                refine W.condF rfl ?_
                refine W.skip ?_
                refine E.blockN ?_
                refine E.thenN ?_
                refine W.region ?_
                refine L.m (V := fun x5 => .int .i64 x5) h rfl (Y.addM rfl rfl) (fun x5 ex5 h => ?_)
                refine L.y rfl (Y.move rfl) ?_
                refine L.nil ?_
                exact E.againJ ⟨x5, rfl, rfl, by rw [hg1]; exact h⟩ (Nat.lt_succ_self _) ⟨rfl, rfl, rfl, rfl, trivial⟩ (fun _ hw => hw)
          ·
            refine L.nil ?_
            refine E.thenN ?_
            refine W.seq ?_
            refine W.condF rfl ?_
            refine W.exit ?_
            refine E.thenX ?_
            refine E.KLX ?_
            refine E.blockX ?_
            exact E.joinJ ⟨rfl, rfl, h⟩ trivial (fun _ hw => hw)
        ·
          rintro _ _ ⟨rfl, rfl, h⟩
          rw [m44_quirref_VacErr_K4] at h
          refine W.seq ?_
          refine W.region ?_
          refine L.y rfl (Y.assign rfl) ?_
          refine L.nil ?_
          refine E.thenN ?_
          refine W.ret ?_
          refine E.ret1 rfl rfl (fun w1 hw => ?_)
          obtain rfl := Option.some.inj h
          exact ⟨_, _, rfl, ⟨rfl, rfl⟩, hw⟩
set_option maxRecDepth 100000 in
set_option maxHeartbeats 8000000 in
theorem w48_vac_Check (a0 : (List TVersion)) (a1 : (List Int)) (a2 : Int) (u0 : Value) (u1 : Value) (w : World) (r : Int) (h : m48_vac_Check a0 a1 a2 = some r) (hA0 : At w u0 2 (a0.map TVersion.row)) (hA1 : At w u1 1 (a1.map I)) : Does Try.prog 48 [u0, u1, .int .i64 a2] w fun u m => u = .int .i64 r ∧ m = [] := by
  rw [m48_vac_Check] at h
  refine body (n := 55) Try.func48 rfl rfl rfl (Cls.refl w) ?_
  refine W.seq ?_
  refine W.region ?_
  refine L.y rfl (Y.assign rfl) ?_
  refine L.nil ?_
  refine E.thenN ?_
  refine W.seqJ (fun gs D => gs = [(0, u0), (1, u1), (2, .int .i64 a2)] ∧ D = Cls w [] [] ∧ m48_vac_Check_K1 a2 a0 a1 = some r) ?_ ?_
  ·
    refine W.seq ?_
    refine W.region ?_
    refine L.y rfl (Y.move rfl) ?_
    refine L.y rfl (Y.lenM (g := TVersion.row) (l := a0) Try.underlying60 rfl (fun w' hw => hA0.cls0 hw)) ?_
    refine L.ite h rfl (Y.gtr rfl rfl) (fun c13 h => ?_) (fun c13 h => ?_)
    ·
      refine L.y rfl (Y.move rfl) ?_
      refine L.pass rfl rfl (by nofun) ?_
      refine L.pass rfl rfl (by nofun) ?_
      refine L.pass rfl rfl (by nofun) ?_
      refine L.y rfl (Y.pickT rfl rfl) ?_
      refine L.nil ?_
      refine E.thenN ?_
      refine W.condT rfl ?_
      refine W.seq ?_
      refine W.region ?_
      refine L.y rfl (Y.assign rfl) ?_
      refine L.nil ?_
      refine E.thenN ?_
      refine W.ret ?_
      refine E.KSR ?_
      refine E.ret1 rfl rfl (fun w1 hw => ?_)
      obtain rfl := Option.some.inj h
      exact ⟨_, _, rfl, ⟨rfl, rfl⟩, hw⟩
    ·
      refine L.y rfl (Y.move rfl) ?_
      refine L.take rfl ?_
      refine L.y rfl (Y.move rfl) ?_
      refine L.take rfl ?_
      refine L.y rfl (Y.lenM (g := I) (l := a1) Try.underlying24 rfl (fun w' hw => hA1.cls0 hw)) ?_
      refine L.take rfl ?_
      refine L.ite h rfl (Y.gtr rfl rfl) (fun c14 h => ?_) (fun c14 h => ?_)
      ·
        refine L.y rfl (Y.pickF rfl rfl) ?_
        refine L.nil ?_
        refine E.thenN ?_
        refine W.condT rfl ?_
        refine W.seq ?_
        refine W.region ?_
        refine L.y rfl (Y.assign rfl) ?_
        refine L.nil ?_
        refine E.thenN ?_
        refine W.ret ?_
        refine E.KSR ?_
        refine E.ret1 rfl rfl (fun w1 hw => ?_)
        obtain rfl := Option.some.inj h
        exact ⟨_, _, rfl, ⟨rfl, rfl⟩, hw⟩
      ·
        refine L.y rfl (Y.pickF rfl rfl) ?_
        refine L.nil ?_
        refine E.thenN ?_
        refine W.condF rfl ?_
        refine W.skip ?_
        exact E.joinJ ⟨rfl, rfl, h⟩ ⟨rfl, rfl, rfl, trivial⟩ (fun _ hw => hw)
  ·
    rintro _ _ ⟨rfl, rfl, h⟩
    rw [m48_vac_Check_K1] at h
    refine W.seqJ (fun gs D => gs = [(0, u0), (1, u1), (2, .int .i64 a2)] ∧ D = Cls w [] [] ∧ m48_vac_Check_K2 a0 a2 a1 = some r) ?_ ?_
    ·
      refine W.seq ?_
      refine W.region ?_
      refine L.y rfl (Y.move rfl) ?_
      refine L.ite h rfl (Y.lss rfl rfl) (fun c12 h => ?_) (fun c12 h => ?_)
      ·
        refine L.nil ?_
        refine E.thenN ?_
        refine W.condT rfl ?_
        refine W.seq ?_
        refine W.region ?_
        refine L.y rfl (Y.assign rfl) ?_
        refine L.nil ?_
        refine E.thenN ?_
        refine W.ret ?_
        refine E.KSR ?_
        refine E.ret1 rfl rfl (fun w1 hw => ?_)
        obtain rfl := Option.some.inj h
        exact ⟨_, _, rfl, ⟨rfl, rfl⟩, hw⟩
      ·
        refine L.nil ?_
        refine E.thenN ?_
        refine W.condF rfl ?_
        refine W.skip ?_
        exact E.joinJ ⟨rfl, rfl, h⟩ ⟨rfl, rfl, rfl, trivial⟩ (fun _ hw => hw)
    ·
      rintro _ _ ⟨rfl, rfl, h⟩
      rw [m48_vac_Check_K2] at h
      refine W.seq ?_
      refine W.region ?_
      refine L.y rfl (Y.assign rfl) ?_
      refine L.nil ?_
      refine E.thenN ?_
      refine W.seqJ (fun gs D => gs = [(1, u1), (2, .int .i64 a2)] ∧ D = Cls w [] [] ∧ m48_vac_Check_K3 a1 a2 = some r) ?_ ?_
      ·
        refine W.seq ?_
        refine W.region ?_
        refine L.y rfl (Y.move rfl) ?_
        refine L.y rfl (Y.lenM (g := TVersion.row) (l := a0) Try.underlying60 rfl (fun w' hw => hA0.cls0 hw)) ?_
        refine L.y rfl (Y.move rfl) ?_
        refine L.nil ?_
        refine E.thenN ?_
        refine W.block ?_
        refine W.loopJ (fun m gs D => ∃ (gx2 : Int) (gx3 : Int), gs = [(1, u1), (2, .int .i64 a2), (7, .int .i64 gx2), (22, u0), (23, .int .i64 (a0.length : Int)), (24, .int .i64 gx3)] ∧ D = Cls w [] [] ∧ m48_vac_Check_L2 a0 a2 a1 m gx2 gx3 = some r) ⟨0, 0, rfl, rfl, h⟩ ⟨rfl, rfl, rfl, rfl, rfl, rfl, trivial⟩ (fun _ hw => hw) ?_
        rintro m _ _ ⟨gx2, gx3, rfl, rfl, h⟩
        rcases m with _ | m
        · rw [m48_vac_Check_L2] at h; cases h
        rw [m48_vac_Check_L2] at h
        generalize hg2 : m48_vac_Check_L2 a0 a2 a1 m = go2 at h
        rw [m48_vac_Check_L2B] at h
        refine W.seq ?_
        refine W.region ?_
        refine L.ite h rfl (Y.lss rfl rfl) (fun c6 h => ?_) (fun c6 h => ?_)
        ·
          refine L.nil ?_
          refine E.thenN ?_
          refine W.seq ?_
          refine W.condT rfl ?_
          refine W.skip ?_
          refine E.thenN ?_
          refine W.seq ?_
          refine W.block ?_
          refine W.seq ?_
          refine W.region ?_
          refine L.m (V := fun _ => el u0 (gx3.toNat * 2)) h rfl (Y.indexM (g := TVersion.row) (l := a0) Try.underlying60 sz68 rfl rfl (fun w' hw => hA0.cls0 hw)) (fun x7 ex7 h => ?_)
          refine L.y rfl (Y.loadEN (r := [.int .i64 x7.At, st x7.Text]) ag68 sz68 rfl (fun w' hw => hA0.cls0 hw) (idx_map ex7) rfl) ?_
          refine L.alloc rfl ze68 ?_
          intro b8
          refine L.store (i := 0) sz68 rfl rfl rfl rfl (by simp [Value.oneCell', Value.cells, st]) rfl (Nat.le_of_ble_eq_true rfl) ?_
          refine L.nil ?_
          refine E.thenN ?_
          refine W.seq ?_
          refine W.seq ?_
          refine W.region ?_
          refine L.y rfl (Y.fieldP fd68_0 rfl) ?_
          refine L.y rfl (Y.loadP (i := 0) ag3 rfl rfl rfl) ?_
          refine L.y rfl (Y.move rfl) ?_
          refine L.ite h rfl (Y.leq rfl rfl) (fun c9 h => ?_) (fun c9 h => ?_)
          ·
            refine L.y rfl (Y.move rfl) ?_
            refine L.pass rfl rfl (by nofun) ?_
            refine L.pass rfl rfl (by nofun) ?_
            refine L.pass rfl rfl (by nofun) ?_
            refine L.pass rfl rfl (by nofun) ?_
            refine L.y rfl (Y.pickT rfl rfl) ?_
            refine L.nil ?_
            refine E.thenN ?_
            refine W.condT rfl ?_
            refine W.seq ?_
            refine W.region ?_
            refine L.y rfl (Y.assign rfl) ?_
            refine L.nil ?_
            refine E.thenN ?_
            refine W.ret ?_
            refine E.thenR ?_
            refine E.blockR ?_
            refine E.thenR ?_
            refine E.KLR ?_
            refine E.blockR ?_
            refine E.KSR ?_
            refine E.ret1 rfl rfl (fun w1 hw => ?_)
            obtain rfl := Option.some.inj h
            exact ⟨_, _, rfl, ⟨rfl, rfl⟩, hw.sel [] (by decide) rfl⟩
          ·
            refine L.y rfl (Y.move rfl) ?_
            refine L.take rfl ?_
            refine L.y rfl (Y.fieldP fd68_0 rfl) ?_
            refine L.take rfl ?_
            refine L.y rfl (Y.loadP (i := 0) ag3 rfl rfl rfl) ?_
            refine L.take rfl ?_
            refine L.y rfl (Y.move rfl) ?_
            refine L.take rfl ?_
            refine L.ite h rfl (Y.gtr rfl rfl) (fun c10 h => ?_) (fun c10 h => ?_)
            ·
              refine L.y rfl (Y.pickF rfl rfl) ?_
              refine L.nil ?_
              refine E.thenN ?_
              refine W.condT rfl ?_
              refine W.seq ?_
              refine W.region ?_
              refine L.y rfl (Y.assign rfl) ?_
              refine L.nil ?_
              refine E.thenN ?_
              refine W.ret ?_
              refine E.thenR ?_
              refine E.blockR ?_
              refine E.thenR ?_
              refine E.KLR ?_
              refine E.blockR ?_
              refine E.KSR ?_
              refine E.ret1 rfl rfl (fun w1 hw => ?_)
              obtain rfl := Option.some.inj h
              exact ⟨_, _, rfl, ⟨rfl, rfl⟩, hw.sel [] (by decide) rfl⟩
            ·
              refine L.y rfl (Y.pickF rfl rfl) ?_
              refine L.nil ?_
              refine E.thenN ?_
              refine W.condF rfl ?_
              refine W.skip ?_
              refine E.thenN ?_
              refine W.region ?_
              refine L.y rfl (Y.fieldP fd68_0 rfl) ?_
              refine L.y rfl (Y.loadP (i := 0) ag3 rfl rfl rfl) ?_
              refine L.y rfl (Y.assign rfl) ?_
              refine L.nil ?_
              refine E.blockN ?_
              refine E.thenN ?_
              refine W.region ?_
              refine L.m (V := fun x11 => .int .i64 x11) h rfl (Y.addM rfl rfl) (fun x11 ex11 h => ?_)
              refine L.y rfl (Y.move rfl) ?_
              refine L.nil ?_
              exact E.againJ ⟨x7.At, x11, rfl, rfl, by rw [hg2]; exact h⟩ (Nat.lt_succ_self _) ⟨rfl, rfl, rfl, rfl, rfl, rfl, trivial⟩ (fun _ hw => hw.sel [] (by decide) rfl)
        ·
          refine L.nil ?_
          refine E.thenN ?_
          refine W.seq ?_
          refine W.condF rfl ?_
          refine W.exit ?_
          refine E.thenX ?_
          refine E.KLX ?_
          refine E.blockX ?_
          exact E.joinJ ⟨rfl, rfl, h⟩ ⟨rfl, rfl, trivial⟩ (fun _ hw => hw)
      ·
        rintro _ _ ⟨rfl, rfl, h⟩
        rw [m48_vac_Check_K3] at h
        refine W.seqJ (fun gs D => gs = [] ∧ D = Cls w [] [] ∧ m48_vac_Check_K4 = some r) ?_ ?_
        ·
          refine W.seq ?_
          refine W.region ?_
          refine L.y rfl (Y.move rfl) ?_
          refine L.y rfl (Y.lenM (g := I) (l := a1) Try.underlying24 rfl (fun w' hw => hA1.cls0 hw)) ?_
          refine L.y rfl (Y.move rfl) ?_
          refine L.nil ?_
          refine E.thenN ?_
          refine W.block ?_
          refine W.loopJ (fun m gs D => ∃ (gx1 : Int), gs = [(2, .int .i64 a2), (41, u1), (42, .int .i64 (a1.length : Int)), (43, .int .i64 gx1)] ∧ D = Cls w [] [] ∧ m48_vac_Check_L1 a1 a2 m gx1 = some r) ⟨0, rfl, rfl, h⟩ ⟨rfl, rfl, rfl, rfl, trivial⟩ (fun _ hw => hw) ?_
          rintro m _ _ ⟨gx1, rfl, rfl, h⟩
          rcases m with _ | m
          · rw [m48_vac_Check_L1] at h; cases h
          rw [m48_vac_Check_L1] at h
          generalize hg1 : m48_vac_Check_L1 a1 a2 m = go1 at h
          rw [m48_vac_Check_L1B] at h
          refine W.seq ?_
          refine W.region ?_
          refine L.ite h rfl (Y.lss rfl rfl) (fun c1 h => ?_) (fun c1 h => ?_)
          ·
            refine L.nil ?_
            refine E.thenN ?_
            refine W.seq ?_
            refine W.condT rfl ?_
            refine W.skip ?_
            refine E.thenN ?_
            refine W.seq ?_
            refine W.block ?_
            refine W.seq ?_
            refine W.region ?_
            refine L.m (V := fun _ => el u1 (gx1.toNat * 1)) h rfl (Y.indexM (g := I) (l := a1) Try.underlying24 sz3 rfl rfl (fun w' hw => hA1.cls0 hw)) (fun x2 ex2 h => ?_)
            refine L.y rfl (Y.loadE1 (u := .int .i64 x2) ag3 rfl (fun w' hw => hA1.cls0 hw) (idx_map ex2)) ?_
            refine L.y rfl (Y.assign rfl) ?_
            refine L.nil ?_
            refine E.thenN ?_
            refine W.seq ?_
            refine W.region ?_
            refine L.y rfl (Y.move rfl) ?_
            refine L.ite h rfl (Y.lss rfl rfl) (fun c3 h => ?_) (fun c3 h => ?_)
            ·
              refine L.y rfl (Y.move rfl) ?_
              refine L.pass rfl rfl (by nofun) ?_
              refine L.pass rfl rfl (by nofun) ?_
              refine L.pass rfl rfl (by nofun) ?_
              refine L.y rfl (Y.pickT rfl rfl) ?_
              refine L.nil ?_
              refine E.thenN ?_
              refine W.condT rfl ?_
              refine W.seq ?_
              refine W.region ?_
              refine L.y rfl (Y.assign rfl) ?_
              refine L.nil ?_
              refine E.thenN ?_
              refine W.ret ?_
              refine E.blockR ?_
              refine E.thenR ?_
              refine E.KLR ?_
              refine E.blockR ?_
              refine E.KSR ?_
              refine E.ret1 rfl rfl (fun w1 hw => ?_)
              obtain rfl := Option.some.inj h
              exact ⟨_, _, rfl, ⟨rfl, rfl⟩, hw⟩
            ·
              refine L.y rfl (Y.move rfl) ?_
              refine L.take rfl ?_
              refine L.y rfl (Y.move rfl) ?_
              refine L.take rfl ?_
              refine L.y rfl (Y.move rfl) ?_
              refine L.take rfl ?_
              refine L.ite h rfl (Y.gtr rfl rfl) (fun c4 h => ?_) (fun c4 h => ?_)
              ·
                refine L.y rfl (Y.pickF rfl rfl) ?_
                refine L.nil ?_
                refine E.thenN ?_
                refine W.condT rfl ?_
                refine W.seq ?_
                refine W.region ?_
                refine L.y rfl (Y.assign rfl) ?_
                refine L.nil ?_
                refine E.thenN ?_
                refine W.ret ?_
                refine E.blockR ?_
                refine E.thenR ?_
                refine E.KLR ?_
                refine E.blockR ?_
                refine E.KSR ?_
                refine E.ret1 rfl rfl (fun w1 hw => ?_)
                obtain rfl := Option.some.inj h
                exact ⟨_, _, rfl, ⟨rfl, rfl⟩, hw⟩
              ·
                refine L.y rfl (Y.pickF rfl rfl) ?_
                refine L.nil ?_
                refine E.thenN ?_
                refine W.condF rfl ?_
                refine W.skip ?_
                refine E.blockN ?_
                refine E.thenN ?_
                refine W.region ?_
                refine L.m (V := fun x5 => .int .i64 x5) h rfl (Y.addM rfl rfl) (fun x5 ex5 h => ?_)
                refine L.y rfl (Y.move rfl) ?_
                refine L.nil ?_
                exact E.againJ ⟨x5, rfl, rfl, by rw [hg1]; exact h⟩ (Nat.lt_succ_self _) ⟨rfl, rfl, rfl, rfl, trivial⟩ (fun _ hw => hw)
          ·
            refine L.nil ?_
            refine E.thenN ?_
            refine W.seq ?_
            refine W.condF rfl ?_
            refine W.exit ?_
            refine E.thenX ?_
            refine E.KLX ?_
            refine E.blockX ?_
            exact E.joinJ ⟨rfl, rfl, h⟩ trivial (fun _ hw => hw)
        ·
          rintro _ _ ⟨rfl, rfl, h⟩
          rw [m48_vac_Check_K4] at h
          refine W.seq ?_
          refine W.region ?_
          refine L.y rfl (Y.assign rfl) ?_
          refine L.nil ?_
          refine E.thenN ?_
          refine W.ret ?_
          refine E.ret1 rfl rfl (fun w1 hw => ?_)
          obtain rfl := Option.some.inj h
          exact ⟨_, _, rfl, ⟨rfl, rfl⟩, hw⟩
set_option maxRecDepth 100000 in
set_option maxHeartbeats 8000000 in
theorem w104_slices_Clone_int (a0 : (List Int)) (u0 : Value) (w : World) (r : (List Int)) (h : m104_slices_Clone_int a0 = some r) (hA0 : At w u0 1 (a0.map I)) : Does Try.prog 104 [u0] w fun u m => ∃ v0, u = v0 ∧ m = [.sl v0 3 1 (r.map I)] := by
  rw [m104_slices_Clone_int] at h
  rcases hA0.shape with ⟨rfl, hn⟩ | ⟨ad, cap, rfl, hl, hm⟩
  ·
    obtain rfl : a0 = [] := by simpa using hn
    replace h : some ([] : List Int) = some r := by simpa [app] using h
    refine body (n := 8) Try.func104 rfl rfl rfl (Cls.refl w) ?_
    refine W.seq ?_
    refine W.region ?_
    refine L.y rfl (Y.assign rfl) ?_
    refine L.nil ?_
    refine E.thenN ?_
    refine W.seq ?_
    refine W.seq ?_
    refine W.region ?_
    refine L.y rfl (Y.move rfl) ?_
    refine L.y rfl (Y.eqlNil Try.underlying24 rfl rfl) ?_
    refine L.nil ?_
    refine E.thenN ?_
    refine W.condT rfl ?_
    refine W.seq ?_
    refine W.region ?_
    refine L.y rfl (Y.assign rfl) ?_
    refine L.nil ?_
    refine E.thenN ?_
    refine W.ret ?_
    refine E.thenR ?_
    refine E.ret1 rfl rfl (fun w1 hw => ?_)
    obtain rfl := Option.some.inj h
    exact ⟨_, _, rfl, ⟨_, rfl, rfl⟩, (hw.nilSl 3 1)⟩
  ·
    refine body (n := 8) Try.func104 rfl rfl rfl (Cls.refl w) ?_
    refine W.seq ?_
    refine W.region ?_
    refine L.y rfl (Y.assign rfl) ?_
    refine L.nil ?_
    refine E.thenN ?_
    refine W.seq ?_
    refine W.seq ?_
    refine W.region ?_
    refine L.y rfl (Y.move rfl) ?_
    refine L.y rfl (Y.eqlNil Try.underlying24 rfl rfl) ?_
    refine L.nil ?_
    refine E.thenN ?_
    refine W.condF rfl ?_
    refine W.skip ?_
    refine E.thenN ?_
    refine W.seq ?_
    refine W.region ?_
    refine L.lit0 rfl Try.underlying24 el3 ?_
    intro b1
    refine L.y rfl (Y.move rfl) ?_
    refine L.appM (i := 0) (g := I) (l := []) (more := a0) h rfl Try.underlying24 el3 rfl rfl rfl (fun w' hw => hA0.cls0 hw) (plain_ints _) rfl ?_
    intro v2 l3 el3 h
    refine L.y rfl (Y.assign rfl) ?_
    refine L.nil ?_
    refine E.thenN ?_
    refine W.ret ?_
    refine E.ret1 rfl rfl (fun w1 hw => ?_)
    obtain rfl := Option.some.inj h
    exact ⟨_, _, rfl, ⟨_, rfl, rfl⟩, hw⟩
set_option maxRecDepth 100000 in
set_option maxHeartbeats 8000000 in
theorem w147_vac_at_1 (a0 : TVersion) (a1 : Int) (w : World) (r : Int) (h : m147_vac_at_1 a0 a1 = some r) : Does Try.prog 147 [.agg #[.int .i64 a0.At, st a0.Text], .int .i64 a1] w fun u m => u = .int .i64 r ∧ m = [] := by
  rw [m147_vac_at_1] at h
  refine body (n := 9) Try.func147 rfl rfl rfl (Cls.refl w) ?_
  refine W.seq ?_
  refine W.region ?_
  refine L.box rfl rfl ?_
  intro b1
  refine L.y rfl (Y.assign rfl) ?_
  refine L.nil ?_
  refine E.thenN ?_
  refine W.seq ?_
  refine W.seq ?_
  refine W.region ?_
  refine L.y rfl (Y.fieldP fd68_0 rfl) ?_
  refine L.y rfl (Y.loadP (i := 0) ag3 rfl rfl rfl) ?_
  refine L.y rfl (Y.move rfl) ?_
  refine L.ite h rfl (Y.leq rfl rfl) (fun c2 h => ?_) (fun c2 h => ?_)
  ·
    refine L.nil ?_
    refine E.thenN ?_
    refine W.condT rfl ?_
    refine W.seq ?_
    refine W.region ?_
    refine L.y rfl (Y.assign rfl) ?_
    refine L.nil ?_
    refine E.thenN ?_
    refine W.ret ?_
    refine E.thenR ?_
    refine E.ret1 rfl rfl (fun w1 hw => ?_)
    obtain rfl := Option.some.inj h
    exact ⟨_, _, rfl, ⟨rfl, rfl⟩, hw.sel [] (by decide) rfl⟩
  ·
    refine L.nil ?_
    refine E.thenN ?_
    refine W.condF rfl ?_
    refine W.skip ?_
    refine E.thenN ?_
    refine W.seq ?_
    refine W.region ?_
    refine L.y rfl (Y.assign rfl) ?_
    refine L.nil ?_
    refine E.thenN ?_
    refine W.ret ?_
    refine E.ret1 rfl rfl (fun w1 hw => ?_)
    obtain rfl := Option.some.inj h
    exact ⟨_, _, rfl, ⟨rfl, rfl⟩, hw.sel [] (by decide) rfl⟩
set_option maxRecDepth 100000 in
set_option maxHeartbeats 8000000 in
theorem w105_vac_at (a0 : (List TVersion)) (a1 : Int) (u0 : Value) (w : World) (r : Int) (h : m105_vac_at a0 a1 = some r) (hA0 : At w u0 2 (a0.map TVersion.row)) : Does Try.prog 105 [u0, .int .i64 a1] w fun u m => u = .int .i64 r ∧ m = [] := by
  rw [m105_vac_at] at h
  refine body (n := 15) Try.func105 rfl rfl rfl (Cls.refl w) ?_
  refine W.seq ?_
  refine W.region ?_
  refine L.y rfl (Y.assign rfl) ?_
  refine L.nil ?_
  refine E.thenN ?_
  refine W.seq ?_
  refine W.region ?_
  refine L.y rfl (Y.move rfl) ?_
  refine L.y rfl (Y.move rfl) ?_
  refine L.callJ (fun v D => ∃ (gx1 : Int) (gb2 : Bool), v = .tuple #[.int .i64 gx1, .bool gb2] ∧ D = Cls w [] [] ∧ m105_vac_at_K1 gx1 gb2 = some r) rfl en146 rfl Try.func146 rfl rfl rfl ?_ ?_
  ·
    refine W.seq ?_
    refine W.region ?_
    refine L.y rfl (Y.assign rfl) ?_
    refine L.y rfl (Y.assign rfl) ?_
    refine L.nil ?_
    refine E.thenN ?_
    refine W.seq ?_
    refine W.region ?_
    refine L.y rfl (Y.move rfl) ?_
    refine L.y rfl (Y.lenM (g := TVersion.row) (l := a0) Try.underlying60 rfl (fun w' hw => hA0.cls0 hw)) ?_
    refine L.y rfl (Y.assign rfl) ?_
    refine L.nil ?_
    refine E.thenN ?_
    refine W.seq ?_
    refine W.region ?_
    refine L.y rfl (Y.move rfl) ?_
    refine L.y rfl (Y.assign rfl) ?_
    refine L.y rfl (Y.assign rfl) ?_
    refine L.nil ?_
    refine E.thenN ?_
    refine W.seqJ (fun gs D => ∃ (gx3 : Int), gs = [(0, u0), (1, .int .i64 a1), (2, .func (.func 147) #[] #[]), (8, .int .i64 (a0.length : Int)), (9, .int .i64 gx3)] ∧ D = Cls w [] [] ∧ m105_vac_at_K2 a0 a1 gx3 = some r) ?_ ?_
    ·
      refine W.block ?_
      refine W.loopJ (fun m gs D => ∃ (gx5 : Int) (gx6 : Int), gs = [(0, u0), (1, .int .i64 a1), (2, .func (.func 147) #[] #[]), (8, .int .i64 (a0.length : Int)), (9, .int .i64 gx5), (10, .int .i64 gx6)] ∧ D = Cls w [] [] ∧ m105_vac_at_L1 a0 a1 m gx5 gx6 = some r) ⟨0, (a0.length : Int), rfl, rfl, h⟩ ⟨rfl, rfl, rfl, rfl, rfl, rfl, trivial⟩ (fun _ hw => hw) ?_
      rintro m _ _ ⟨gx5, gx6, rfl, rfl, h⟩
      rcases m with _ | m
      · rw [m105_vac_at_L1] at h; cases h
      rw [m105_vac_at_L1] at h
      generalize hg1 : m105_vac_at_L1 a0 a1 m = go1 at h
      rw [m105_vac_at_L1B] at h
      refine W.seqJ (fun gs D => gs = [(0, u0), (1, .int .i64 a1), (2, .func (.func 147) #[] #[]), (8, .int .i64 (a0.length : Int)), (9, .int .i64 gx5), (10, .int .i64 gx6)] ∧ D = Cls w [] [] ∧ m105_vac_at_K4 gx5 gx6 a0 a1 go1 = some r) ?_ ?_
      ·
        refine W.seq ?_
        refine W.region ?_
        refine L.y rfl (Y.move rfl) ?_
        refine L.y rfl (Y.move rfl) ?_
        refine L.ite h rfl (Y.lss rfl rfl) (fun c13 h => ?_) (fun c13 h => ?_)
        ·
          refine L.nil ?_
          refine E.thenN ?_
          refine W.condT rfl ?_
          refine W.skip ?_
          exact E.joinJ ⟨rfl, rfl, h⟩ ⟨rfl, rfl, rfl, rfl, rfl, rfl, trivial⟩ (fun _ hw => hw)
        ·
          refine L.nil ?_
          refine E.thenN ?_
          refine W.condF rfl ?_
          refine W.exit ?_
          refine E.KSX ?_
          refine E.KLX ?_
          refine E.blockX ?_
          exact E.joinJ ⟨gx5, rfl, rfl, h⟩ ⟨rfl, rfl, rfl, rfl, rfl, trivial⟩ (fun _ hw => hw)
      ·
        rintro _ _ ⟨rfl, rfl, h⟩
        rw [m105_vac_at_K4] at h
        refine W.block ?_
        refine W.seq ?_
        refine W.region ?_
        refine L.y rfl (Y.move rfl) ?_
        refine L.y rfl (Y.move rfl) ?_
        refine L.m (V := fun x6 => .int .i64 x6) h rfl (Y.addM rfl rfl) (fun x6 ex6 h => ?_)
        refine L.y rfl (Y.conv Try.underlying3 Try.underlying155 rfl) ?_
        refine L.m (V := fun x7 => .int .u64 x7) h rfl (Y.shrM rfl rfl) (fun x7 ex7 h => ?_)
        refine L.y rfl (Y.conv Try.underlying155 Try.underlying3 rfl) ?_
        refine L.y rfl (Y.assign rfl) ?_
        refine L.nil ?_
        refine E.thenN ?_
        refine W.seq ?_
        refine W.region ?_
        refine L.y rfl (Y.move rfl) ?_
        refine L.y rfl (Y.move rfl) ?_
        refine L.y rfl (Y.move rfl) ?_
        refine L.m (V := fun _ => el u0 ((IntKind.wrap .i64 x7).toNat * 2)) h rfl (Y.indexM (g := TVersion.row) (l := a0) Try.underlying60 sz68 rfl rfl (fun w' hw => hA0.cls0 hw)) (fun x8 ex8 h => ?_)
        refine L.y rfl (Y.loadEN (r := [.int .i64 x8.At, st x8.Text]) ag68 sz68 rfl (fun w' hw => hA0.cls0 hw) (idx_map ex8) rfl) ?_
        refine L.y rfl (Y.move rfl) ?_
        refine L.callVJ (fun v D => ∃ (gx7 : Int), v = .int .i64 gx7 ∧ D = Cls w [] [] ∧ m105_vac_at_K5 x7 go1 gx6 gx5 gx7 = some r) rfl en147 rfl rfl Try.func147 rfl rfl rfl ?_ ?_
        ·
          refine W.seq ?_
          refine W.region ?_
          refine L.box rfl rfl ?_
          intro b11
          refine L.y rfl (Y.assign rfl) ?_
          refine L.nil ?_
          refine E.thenN ?_
          refine W.seq ?_
          refine W.seq ?_
          refine W.region ?_
          refine L.y rfl (Y.fieldP fd68_0 rfl) ?_
          refine L.y rfl (Y.loadP (i := 0) ag3 rfl rfl rfl) ?_
          refine L.y rfl (Y.move rfl) ?_
          refine L.ite h rfl (Y.leq rfl rfl) (fun c12 h => ?_) (fun c12 h => ?_)
          ·
            refine L.nil ?_
            refine E.thenN ?_
            refine W.condT rfl ?_
            refine W.seq ?_
            refine W.region ?_
            refine L.y rfl (Y.assign rfl) ?_
            refine L.nil ?_
            refine E.thenN ?_
            refine W.ret ?_
            refine E.thenR ?_
            refine E.ret1 rfl rfl (fun w1 hw => ?_)
            exact ⟨_, _, rfl, ⟨(-1), rfl, rfl, h⟩, hw.sel [] (by decide) rfl⟩
          ·
            refine L.nil ?_
            refine E.thenN ?_
            refine W.condF rfl ?_
            refine W.skip ?_
            refine E.thenN ?_
            refine W.seq ?_
            refine W.region ?_
            refine L.y rfl (Y.assign rfl) ?_
            refine L.nil ?_
            refine E.thenN ?_
            refine W.ret ?_
            refine E.ret1 rfl rfl (fun w1 hw => ?_)
            exact ⟨_, _, rfl, ⟨1, rfl, rfl, h⟩, hw.sel [] (by decide) rfl⟩
        ·
          rintro _ _ ⟨gx7, rfl, rfl, h⟩
          rw [m105_vac_at_K5] at h
          refine L.ite h rfl (Y.lss rfl rfl) (fun c9 h => ?_) (fun c9 h => ?_)
          ·
            refine L.nil ?_
            refine E.thenN ?_
            refine W.condT rfl ?_
            refine W.region ?_
            refine L.y rfl (Y.move rfl) ?_
            refine L.m (V := fun x10 => .int .i64 x10) h rfl (Y.addM rfl rfl) (fun x10 ex10 h => ?_)
            refine L.y rfl (Y.assign rfl) ?_
            refine L.nil ?_
            refine E.blockN ?_
            exact E.againJ ⟨x10, gx6, rfl, rfl, by rw [hg1]; exact h⟩ (Nat.lt_succ_self _) ⟨rfl, rfl, rfl, rfl, rfl, rfl, trivial⟩ (fun _ hw => hw)
          ·
            refine L.nil ?_
            refine E.thenN ?_
            refine W.condF rfl ?_
            refine W.region ?_
            refine L.y rfl (Y.move rfl) ?_
            refine L.y rfl (Y.assign rfl) ?_
            refine L.nil ?_
            refine E.blockN ?_
            exact E.againJ ⟨gx5, IntKind.wrap .i64 x7, rfl, rfl, by rw [hg1]; exact h⟩ (Nat.lt_succ_self _) ⟨rfl, rfl, rfl, rfl, rfl, rfl, trivial⟩ (fun _ hw => hw)
    ·
      rintro _ _ ⟨gx3, rfl, rfl, h⟩
      rw [m105_vac_at_K2] at h
      refine W.seq ?_
      refine W.region ?_
      refine L.y rfl (Y.move rfl) ?_
      refine L.y rfl (Y.move rfl) ?_
      refine L.y rfl (Y.move rfl) ?_
      refine L.ite h rfl (Y.lss rfl rfl) (fun c2 h => ?_) (fun c2 h => ?_)
      ·
        refine L.y rfl (Y.move rfl) ?_
        refine L.take rfl ?_
        refine L.y rfl (Y.move rfl) ?_
        refine L.take rfl ?_
        refine L.y rfl (Y.move rfl) ?_
        refine L.take rfl ?_
        refine L.y rfl (Y.move rfl) ?_
        refine L.take rfl ?_
        refine L.m (V := fun _ => el u0 (gx3.toNat * 2)) h rfl (Y.indexM (g := TVersion.row) (l := a0) Try.underlying60 sz68 rfl rfl (fun w' hw => hA0.cls0 hw)) (fun x3 ex3 h => ?_)
        refine L.take rfl ?_
        refine L.y rfl (Y.loadEN (r := [.int .i64 x3.At, st x3.Text]) ag68 sz68 rfl (fun w' hw => hA0.cls0 hw) (idx_map ex3) rfl) ?_
        refine L.take rfl ?_
        refine L.y rfl (Y.move rfl) ?_
        refine L.take rfl ?_
        refine L.callVJ (fun v D => ∃ (gx4 : Int), v = .int .i64 gx4 ∧ D = Cls w [] [] ∧ m105_vac_at_K3 gx3 gx4 = some r) rfl en147 rfl rfl Try.func147 rfl rfl rfl ?_ ?_
        ·
          refine W.seq ?_
          refine W.region ?_
          refine L.box rfl rfl ?_
          intro b4
          refine L.y rfl (Y.assign rfl) ?_
          refine L.nil ?_
          refine E.thenN ?_
          refine W.seq ?_
          refine W.seq ?_
          refine W.region ?_
          refine L.y rfl (Y.fieldP fd68_0 rfl) ?_
          refine L.y rfl (Y.loadP (i := 0) ag3 rfl rfl rfl) ?_
          refine L.y rfl (Y.move rfl) ?_
          refine L.ite h rfl (Y.leq rfl rfl) (fun c5 h => ?_) (fun c5 h => ?_)
          ·
            refine L.nil ?_
            refine E.thenN ?_
            refine W.condT rfl ?_
            refine W.seq ?_
            refine W.region ?_
            refine L.y rfl (Y.assign rfl) ?_
            refine L.nil ?_
            refine E.thenN ?_
            refine W.ret ?_
            refine E.thenR ?_
            refine E.ret1 rfl rfl (fun w1 hw => ?_)
            exact ⟨_, _, rfl, ⟨(-1), rfl, rfl, h⟩, hw.sel [] (by decide) rfl⟩
          ·
            refine L.nil ?_
            refine E.thenN ?_
            refine W.condF rfl ?_
            refine W.skip ?_
            refine E.thenN ?_
            refine W.seq ?_
            refine W.region ?_
            refine L.y rfl (Y.assign rfl) ?_
            refine L.nil ?_
            refine E.thenN ?_
            refine W.ret ?_
            refine E.ret1 rfl rfl (fun w1 hw => ?_)
            exact ⟨_, _, rfl, ⟨1, rfl, rfl, h⟩, hw.sel [] (by decide) rfl⟩
        ·
          rintro _ _ ⟨gx4, rfl, rfl, h⟩
          rw [m105_vac_at_K3] at h
          refine L.take rfl ?_
          refine L.y rfl (Y.eql rfl rfl) ?_
          refine L.y rfl (Y.pickT rfl rfl) ?_
          refine L.y rfl (Y.assign rfl) ?_
          refine L.y rfl (Y.assign rfl) ?_
          refine L.nil ?_
          refine E.thenN ?_
          refine W.ret ?_
          refine E.ret2 rfl rfl rfl (fun w1 hw => ?_)
          exact ⟨_, _, rfl, ⟨gx3, decide (gx4 = 0), rfl, rfl, h⟩, hw⟩
      ·
        refine L.y rfl (Y.move rfl) ?_
        refine L.pass rfl rfl (by nofun) ?_
        refine L.pass rfl rfl (by nofun) ?_
        refine L.pass rfl rfl (by nofun) ?_
        refine L.pass rfl rfl (by nofun) ?_
        refine L.pass rfl rfl (by nofun) ?_
        refine L.pass rfl rfl (by nofun) ?_
        refine L.pass rfl rfl (by nofun) ?_
        refine L.pass rfl rfl (by nofun) ?_
        refine L.y rfl (Y.pickF rfl rfl) ?_
        refine L.y rfl (Y.assign rfl) ?_
        refine L.y rfl (Y.assign rfl) ?_
        refine L.nil ?_
        refine E.thenN ?_
        refine W.ret ?_
        refine E.ret2 rfl rfl rfl (fun w1 hw => ?_)
        exact ⟨_, _, rfl, ⟨gx3, false, rfl, rfl, h⟩, hw⟩
  ·
    rintro _ _ ⟨gx1, gb2, rfl, rfl, h⟩
    rw [m105_vac_at_K1] at h
    refine L.y rfl (Y.move rfl) ?_
    refine L.y rfl (Y.extract rfl rfl) ?_
    refine L.y rfl (Y.extract rfl rfl) ?_
    refine L.y rfl (Y.assign rfl) ?_
    refine L.y rfl (Y.assign rfl) ?_
    refine L.nil ?_
    refine E.thenN ?_
    refine W.seq ?_
    refine W.region ?_
    refine L.y rfl (Y.move rfl) ?_
    refine L.m (V := fun x1 => .int .i64 x1) h rfl (Y.subM rfl rfl) (fun x1 ex1 h => ?_)
    refine L.y rfl (Y.assign rfl) ?_
    refine L.nil ?_
    refine E.thenN ?_
    refine W.ret ?_
    refine E.ret1 rfl rfl (fun w1 hw => ?_)
    obtain rfl := Option.some.inj h
    exact ⟨_, _, rfl, ⟨rfl, rfl⟩, hw⟩
set_option maxRecDepth 100000 in
set_option maxHeartbeats 8000000 in
theorem w45_vac_Keep (a0 : (List TVersion)) (a1 : (List Int)) (a2 : Int) (u0 : Value) (u1 : Value) (w : World) (r : ((List TVersion) × Int)) (h : m45_vac_Keep a0 a1 a2 = some r) (hA0 : At w u0 2 (a0.map TVersion.row)) (hA1 : At w u1 1 (a1.map I)) : Does Try.prog 45 [u0, u1, .int .i64 a2] w fun u m => ∃ v0, u = .tuple #[v0, .int .i64 r.2] ∧ m = [.sl v0 68 2 (r.1.map TVersion.row)] := by
  rw [m45_vac_Keep] at h
  refine body (n := 57) Try.func45 rfl rfl rfl (Cls.refl w) ?_
  refine W.seq ?_
  refine W.region ?_
  refine L.y rfl (Y.assign rfl) ?_
  refine L.y rfl (Y.assign rfl) ?_
  refine L.nil ?_
  refine E.thenN ?_
  refine W.seqJ (fun gs D => gs = [(0, u0), (1, u1), (2, .int .i64 a2)] ∧ D = Cls w [] [] ∧ m45_vac_Keep_K1 a1 a2 a0 = some r) ?_ ?_
  ·
    refine W.seq ?_
    refine W.region ?_
    refine L.y rfl (Y.move rfl) ?_
    refine L.y rfl (Y.move rfl) ?_
    refine L.y rfl (Y.move rfl) ?_
    obtain ⟨x24, e25, h⟩ := bind1S h
    refine L.y rfl (Y.does en48 rfl (fun w' hw => (w48_vac_Check a0 a1 a2 u0 u1 w' _ e25 (hA0.cls0 hw) (hA1.cls0 hw)).mono (fun _ _ h => h.1))) ?_
    refine L.y rfl (Y.assign rfl) ?_
    refine L.nil ?_
    refine E.thenN ?_
    refine W.seq ?_
    refine W.region ?_
    refine L.y rfl (Y.move rfl) ?_
    refine L.ite h rfl (Y.neq rfl rfl) (fun c26 h => ?_) (fun c26 h => ?_)
    ·
      refine L.nil ?_
      refine E.thenN ?_
      refine W.condT rfl ?_
      refine W.seq ?_
      refine W.region ?_
      refine L.y rfl (Y.move rfl) ?_
      refine L.y rfl (Y.assign rfl) ?_
      refine L.y rfl (Y.assign rfl) ?_
      refine L.nil ?_
      refine E.thenN ?_
      refine W.ret ?_
      refine E.KSR ?_
      refine E.ret2 rfl rfl rfl (fun w1 hw => ?_)
      obtain rfl := Option.some.inj h
      exact ⟨_, _, rfl, ⟨_, rfl, rfl⟩, (hw.nilSl 68 2)⟩
    ·
      refine L.nil ?_
      refine E.thenN ?_
      refine W.condF rfl ?_
      refine W.skip ?_
      exact E.joinJ ⟨rfl, rfl, h⟩ ⟨rfl, rfl, rfl, trivial⟩ (fun _ hw => hw)
  ·
    rintro _ _ ⟨rfl, rfl, h⟩
    rw [m45_vac_Keep_K1] at h
    refine W.seq ?_
    refine W.region ?_
    refine L.makeMap rfl ?_
    intro b1
    refine L.y rfl (Y.assign rfl) ?_
    refine L.nil ?_
    refine E.thenN ?_
    refine W.seqJ (fun gs D => ∃ (gl1 : (List (Int × Int))), gs = [(0, u0), (9, .map (some b1))] ∧ D = Cls w [] [.mp b1 gl1] ∧ m45_vac_Keep_K2 a0 gl1 = some r) ?_ ?_
    ·
      refine W.seq ?_
      refine W.region ?_
      refine L.y rfl (Y.move rfl) ?_
      obtain ⟨l11, e13, h⟩ := bind1S h
      refine L.does rfl en104 rfl (fun w' hw => w104_slices_Clone_int a1 u1 w' _ e13 (hA1.cls0 hw)) ?_
      rintro v12 _ ⟨_, rfl, rfl⟩
      refine L.y rfl (Y.move rfl) ?_
      refine L.litOne rfl Try.underlying24 el3 rfl rfl ?_
      intro b14
      refine L.appM (i := 1) (g := I) (l := l11) (more := [a2]) h rfl Try.underlying24 el3 rfl rfl rfl (fun w hw => As.at_ (hw.get (i := 0) rfl)) (plain_ints _) rfl ?_
      intro v15 l16 el16 h
      refine L.y rfl (Y.lenM (g := I) (l := l16) Try.underlying24 rfl (fun w hw => As.at_ (hw.get (i := 0) rfl))) ?_
      refine L.y rfl (Y.move rfl) ?_
      refine L.nil ?_
      refine E.thenN ?_
      refine W.block ?_
      refine W.loopJ (fun m gs D => ∃ (gx7 : Int) (gl8 : (List (Int × Int))), gs = [(0, u0), (9, .map (some b1)), (27, v15), (28, .int .i64 (l16.length : Int)), (29, .int .i64 gx7)] ∧ D = Cls w [] [.mp b1 gl8, .sl v15 3 1 (l16.map I)] ∧ m45_vac_Keep_L2 l16 a0 m gx7 gl8 = some r) ⟨0, [], rfl, rfl, h⟩ ⟨rfl, rfl, rfl, rfl, rfl, trivial⟩ (fun _ hw => hw.sel [2, 0] (by decide) rfl) ?_
      rintro m _ _ ⟨gx7, gl8, rfl, rfl, h⟩
      rcases m with _ | m
      · rw [m45_vac_Keep_L2] at h; cases h
      rw [m45_vac_Keep_L2] at h
      generalize hg2 : m45_vac_Keep_L2 l16 a0 m = go2 at h
      rw [m45_vac_Keep_L2B] at h
      refine W.seq ?_
      refine W.region ?_
      refine L.ite h rfl (Y.lss rfl rfl) (fun c17 h => ?_) (fun c17 h => ?_)
      ·
        refine L.nil ?_
        refine E.thenN ?_
        refine W.seq ?_
        refine W.condT rfl ?_
        refine W.skip ?_
        refine E.thenN ?_
        refine W.seq ?_
        refine W.block ?_
        refine W.seq ?_
        refine W.region ?_
        refine L.m (V := fun _ => el v15 (gx7.toNat * 1)) h rfl (Y.indexM (g := I) (l := l16) Try.underlying24 sz3 rfl rfl (fun w hw => As.at_ (hw.get (i := 1) rfl))) (fun x18 ex18 h => ?_)
        refine L.y rfl (Y.loadE1 (u := .int .i64 x18) ag3 rfl (fun w hw => As.at_ (hw.get (i := 1) rfl)) (idx_map ex18)) ?_
        refine L.y rfl (Y.assign rfl) ?_
        refine L.nil ?_
        refine E.thenN ?_
        refine W.region ?_
        refine L.y rfl (Y.move rfl) ?_
        refine L.y rfl (Y.move rfl) ?_
        refine L.y rfl (Y.move rfl) ?_
        obtain ⟨x19, e20, h⟩ := bind1S h
        refine L.y rfl (Y.does en105 rfl (fun w' hw => (w105_vac_at a0 x18 u0 w' _ e20 (hA0.cls0 hw)).mono (fun _ _ h => h.1))) ?_
        refine L.y rfl (Y.lookupM (i := 0) Try.underlying160 Try.underlying3 (by kernel_rfl) rfl rfl rfl) ?_
        refine L.m (V := fun x21 => .int .i64 x21) h rfl (Y.addM rfl rfl) (fun x21 ex21 h => ?_)
        refine L.mapSet (i := 0) Try.underlying160 Try.underlying3 rfl rfl rfl rfl ?_
        obtain ⟨l22, el22, h⟩ := bind1S h
        obtain rfl := Option.some.inj el22
        refine L.nil ?_
        refine E.blockN ?_
        refine E.thenN ?_
        refine W.region ?_
        refine L.m (V := fun x23 => .int .i64 x23) h rfl (Y.addM rfl rfl) (fun x23 ex23 h => ?_)
        refine L.y rfl (Y.move rfl) ?_
        refine L.nil ?_
        exact E.againJ ⟨x23, mset gl8 x19 x21, rfl, rfl, by rw [hg2]; exact h⟩ (Nat.lt_succ_self _) ⟨rfl, rfl, rfl, rfl, rfl, trivial⟩ (fun _ hw => hw)
      ·
        refine L.nil ?_
        refine E.thenN ?_
        refine W.seq ?_
        refine W.condF rfl ?_
        refine W.exit ?_
        refine E.thenX ?_
        refine E.KLX ?_
        refine E.blockX ?_
        exact E.joinJ ⟨gl8, rfl, rfl, h⟩ ⟨rfl, rfl, trivial⟩ (fun _ hw => hw.sel [0] (by decide) rfl)
    ·
      rintro _ _ ⟨gl1, rfl, rfl, h⟩
      rw [m45_vac_Keep_K2] at h
      refine W.seq ?_
      refine W.region ?_
      refine L.y rfl (Y.assign rfl) ?_
      refine L.nil ?_
      refine E.thenN ?_
      refine W.seqJ (fun gs D => ∃ (gv2 : Value) (gl3 : (List TVersion)), gs = [(12, gv2)] ∧ D = Cls w [] [.sl gv2 68 2 (gl3.map TVersion.row)] ∧ m45_vac_Keep_K3 gl3 = some r) ?_ ?_
      ·
        refine W.seq ?_
        refine W.region ?_
        refine L.y rfl (Y.move rfl) ?_
        refine L.y rfl (Y.lenM (g := TVersion.row) (l := a0) Try.underlying60 rfl (fun w' hw => hA0.cls0 hw)) ?_
        refine L.y rfl (Y.move rfl) ?_
        refine L.nil ?_
        refine E.thenN ?_
        refine W.block ?_
        refine W.nilSl 68 2 ?_
        refine W.loopJ (fun m gs D => ∃ (gv4 : Value) (gl5 : (List TVersion)) (gx6 : Int), gs = [(9, .map (some b1)), (12, gv4), (40, u0), (41, .int .i64 (a0.length : Int)), (42, .int .i64 gx6)] ∧ D = Cls w [] [.mp b1 gl1, .sl gv4 68 2 (gl5.map TVersion.row)] ∧ m45_vac_Keep_L1 a0 gl1 m gl5 gx6 = some r) ⟨.slice none 0 0, [], 0, rfl, rfl, h⟩ ⟨rfl, rfl, rfl, rfl, rfl, trivial⟩ (fun _ hw => hw.sel [1, 0] (by decide) rfl) ?_
        rintro m _ _ ⟨gv4, gl5, gx6, rfl, rfl, h⟩
        rcases m with _ | m
        · rw [m45_vac_Keep_L1] at h; cases h
        rw [m45_vac_Keep_L1] at h
        generalize hg1 : m45_vac_Keep_L1 a0 gl1 m = go1 at h
        rw [m45_vac_Keep_L1B] at h
        refine W.seq ?_
        refine W.region ?_
        refine L.ite h rfl (Y.lss rfl rfl) (fun c2 h => ?_) (fun c2 h => ?_)
        ·
          refine L.nil ?_
          refine E.thenN ?_
          refine W.seq ?_
          refine W.condT rfl ?_
          refine W.skip ?_
          refine E.thenN ?_
          refine W.seq ?_
          refine W.block ?_
          refine W.seq ?_
          refine W.region ?_
          refine L.y rfl (Y.move rfl) ?_
          refine L.m (V := fun _ => el u0 (gx6.toNat * 2)) h rfl (Y.indexM (g := TVersion.row) (l := a0) Try.underlying60 sz68 rfl rfl (fun w' hw => hA0.cls0 hw)) (fun x3 ex3 h => ?_)
          refine L.y rfl (Y.loadEN (r := [.int .i64 x3.At, st x3.Text]) ag68 sz68 rfl (fun w' hw => hA0.cls0 hw) (idx_map ex3) rfl) ?_
          refine L.alloc rfl ze68 ?_
          intro b4
          refine L.y rfl (Y.assign rfl) ?_
          refine L.store (i := 0) sz68 rfl rfl rfl rfl (by simp [Value.oneCell', Value.cells, st]) rfl (Nat.le_of_ble_eq_true rfl) ?_
          refine L.nil ?_
          refine E.thenN ?_
          refine W.seq ?_
          refine W.region ?_
          refine L.y rfl (Y.move rfl) ?_
          refine L.y rfl (Y.move rfl) ?_
          refine L.y rfl (Y.lookupM (i := 1) Try.underlying160 Try.underlying3 (by kernel_rfl) rfl rfl rfl) ?_
          refine L.ite h rfl (Y.gtr rfl rfl) (fun c5 h => ?_) (fun c5 h => ?_)
          ·
            refine L.nil ?_
            refine E.thenN ?_
            refine W.condT rfl ?_
            refine W.region ?_
            refine L.y rfl (Y.move rfl) ?_
            refine L.y rfl (Y.loadPW (i := 0) ag68 sz68 rfl rfl rfl) ?_
            refine L.litAgg rfl Try.underlying60 el68 rfl rfl rfl ?_
            intro b6
            refine L.appM (i := 3) (g := TVersion.row) (l := gl5) (more := [x3]) h rfl Try.underlying60 el68 rfl rfl rfl (fun w hw => As.at_ (hw.get (i := 0) rfl)) (plain_TVersion _) rfl ?_
            intro v7 l8 el8 h
            refine L.y rfl (Y.assign rfl) ?_
            refine L.nil ?_
            refine E.blockN ?_
            refine E.thenN ?_
            refine W.region ?_
            refine L.m (V := fun x9 => .int .i64 x9) h rfl (Y.addM rfl rfl) (fun x9 ex9 h => ?_)
            refine L.y rfl (Y.move rfl) ?_
            refine L.nil ?_
            exact E.againJ ⟨v7, l8, x9, rfl, rfl, by rw [hg1]; exact h⟩ (Nat.lt_succ_self _) ⟨rfl, rfl, rfl, rfl, rfl, trivial⟩ (fun _ hw => hw.sel [3, 0] (by decide) rfl)
          ·
            refine L.nil ?_
            refine E.thenN ?_
            refine W.condF rfl ?_
            refine W.skip ?_
            refine E.blockN ?_
            refine E.thenN ?_
            refine W.region ?_
            refine L.m (V := fun x10 => .int .i64 x10) h rfl (Y.addM rfl rfl) (fun x10 ex10 h => ?_)
            refine L.y rfl (Y.move rfl) ?_
            refine L.nil ?_
            exact E.againJ ⟨gv4, gl5, x10, rfl, rfl, by rw [hg1]; exact h⟩ (Nat.lt_succ_self _) ⟨rfl, rfl, rfl, rfl, rfl, trivial⟩ (fun _ hw => hw.sel [1, 2] (by decide) rfl)
        ·
          refine L.nil ?_
          refine E.thenN ?_
          refine W.seq ?_
          refine W.condF rfl ?_
          refine W.exit ?_
          refine E.thenX ?_
          refine E.KLX ?_
          refine E.blockX ?_
          exact E.joinJ ⟨gv4, gl5, rfl, rfl, h⟩ ⟨rfl, trivial⟩ (fun _ hw => hw.sel [1] (by decide) rfl)
      ·
        rintro _ _ ⟨gv2, gl3, rfl, rfl, h⟩
        rw [m45_vac_Keep_K3] at h
        refine W.seq ?_
        refine W.region ?_
        refine L.y rfl (Y.move rfl) ?_
        refine L.y rfl (Y.assign rfl) ?_
        refine L.y rfl (Y.assign rfl) ?_
        refine L.nil ?_
        refine E.thenN ?_
        refine W.ret ?_
        refine E.ret2 rfl rfl rfl (fun w1 hw => ?_)
        obtain rfl := Option.some.inj h
        exact ⟨_, _, rfl, ⟨_, rfl, rfl⟩, hw⟩
set_option maxRecDepth 100000 in
set_option maxHeartbeats 8000000 in
theorem w46_vac_Read (a0 : (List TVersion)) (a1 : Int) (u0 : Value) (w : World) (r : ((List UInt8) × Bool)) (h : m46_vac_Read a0 a1 = some r) (hA0 : At w u0 2 (a0.map TVersion.row)) : Does Try.prog 46 [u0, .int .i64 a1] w fun u m => u = .tuple #[st r.1, .bool r.2] ∧ m = [] := by
  rw [m46_vac_Read] at h
  refine body (n := 29) Try.func46 rfl rfl rfl (Cls.refl w) ?_
  refine W.seq ?_
  refine W.region ?_
  refine L.y rfl (Y.assign rfl) ?_
  refine L.y rfl (Y.assign rfl) ?_
  refine L.nil ?_
  refine E.thenN ?_
  refine W.seq ?_
  refine W.region ?_
  refine L.y rfl (Y.assign rfl) ?_
  refine L.nil ?_
  refine E.thenN ?_
  refine W.seqJ (fun gs D => ∃ (gx1 : Int), gs = [(0, u0), (6, .int .i64 gx1)] ∧ D = Cls w [] [] ∧ m46_vac_Read_K1 a0 gx1 = some r) ?_ ?_
  ·
    refine W.seq ?_
    refine W.region ?_
    refine L.y rfl (Y.move rfl) ?_
    refine L.y rfl (Y.lenM (g := TVersion.row) (l := a0) Try.underlying60 rfl (fun w' hw => hA0.cls0 hw)) ?_
    refine L.y rfl (Y.move rfl) ?_
    refine L.nil ?_
    refine E.thenN ?_
    refine W.block ?_
    refine W.loopJ (fun m gs D => ∃ (gx2 : Int) (gx3 : Int), gs = [(0, u0), (1, .int .i64 a1), (6, .int .i64 gx2), (9, u0), (10, .int .i64 (a0.length : Int)), (11, .int .i64 gx3)] ∧ D = Cls w [] [] ∧ m46_vac_Read_L1 a0 a1 m gx2 gx3 = some r) ⟨(-1), 0, rfl, rfl, h⟩ ⟨rfl, rfl, rfl, rfl, rfl, rfl, trivial⟩ (fun _ hw => hw) ?_
    rintro m _ _ ⟨gx2, gx3, rfl, rfl, h⟩
    rcases m with _ | m
    · rw [m46_vac_Read_L1] at h; cases h
    rw [m46_vac_Read_L1] at h
    generalize hg1 : m46_vac_Read_L1 a0 a1 m = go1 at h
    rw [m46_vac_Read_L1B] at h
    refine W.seq ?_
    refine W.region ?_
    refine L.ite h rfl (Y.lss rfl rfl) (fun c3 h => ?_) (fun c3 h => ?_)
    ·
      refine L.nil ?_
      refine E.thenN ?_
      refine W.seq ?_
      refine W.condT rfl ?_
      refine W.skip ?_
      refine E.thenN ?_
      refine W.seq ?_
      refine W.block ?_
      refine W.seq ?_
      refine W.region ?_
      refine L.y rfl (Y.move rfl) ?_
      refine L.m (V := fun _ => el u0 (gx3.toNat * 2)) h rfl (Y.indexM (g := TVersion.row) (l := a0) Try.underlying60 sz68 rfl rfl (fun w' hw => hA0.cls0 hw)) (fun x4 ex4 h => ?_)
      refine L.y rfl (Y.loadEN (r := [.int .i64 x4.At, st x4.Text]) ag68 sz68 rfl (fun w' hw => hA0.cls0 hw) (idx_map ex4) rfl) ?_
      refine L.alloc rfl ze68 ?_
      intro b5
      refine L.y rfl (Y.assign rfl) ?_
      refine L.store (i := 0) sz68 rfl rfl rfl rfl (by simp [Value.oneCell', Value.cells, st]) rfl (Nat.le_of_ble_eq_true rfl) ?_
      refine L.nil ?_
      refine E.thenN ?_
      refine W.seq ?_
      refine W.region ?_
      refine L.y rfl (Y.fieldP fd68_0 rfl) ?_
      refine L.y rfl (Y.loadP (i := 0) ag3 rfl rfl rfl) ?_
      refine L.y rfl (Y.move rfl) ?_
      refine L.ite h rfl (Y.leq rfl rfl) (fun c6 h => ?_) (fun c6 h => ?_)
      ·
        refine L.nil ?_
        refine E.thenN ?_
        refine W.condT rfl ?_
        refine W.region ?_
        refine L.y rfl (Y.move rfl) ?_
        refine L.y rfl (Y.assign rfl) ?_
        refine L.nil ?_
        refine E.blockN ?_
        refine E.thenN ?_
        refine W.region ?_
        refine L.m (V := fun x7 => .int .i64 x7) h rfl (Y.addM rfl rfl) (fun x7 ex7 h => ?_)
        refine L.y rfl (Y.move rfl) ?_
        refine L.nil ?_
        exact E.againJ ⟨gx3, x7, rfl, rfl, by rw [hg1]; exact h⟩ (Nat.lt_succ_self _) ⟨rfl, rfl, rfl, rfl, rfl, rfl, trivial⟩ (fun _ hw => hw.sel [] (by decide) rfl)
      ·
        refine L.nil ?_
        refine E.thenN ?_
        refine W.condF rfl ?_
        refine W.skip ?_
        refine E.blockN ?_
        refine E.thenN ?_
        refine W.region ?_
        refine L.m (V := fun x8 => .int .i64 x8) h rfl (Y.addM rfl rfl) (fun x8 ex8 h => ?_)
        refine L.y rfl (Y.move rfl) ?_
        refine L.nil ?_
        exact E.againJ ⟨gx2, x8, rfl, rfl, by rw [hg1]; exact h⟩ (Nat.lt_succ_self _) ⟨rfl, rfl, rfl, rfl, rfl, rfl, trivial⟩ (fun _ hw => hw.sel [] (by decide) rfl)
    ·
      refine L.nil ?_
      refine E.thenN ?_
      refine W.seq ?_
      refine W.condF rfl ?_
      refine W.exit ?_
      refine E.thenX ?_
      refine E.KLX ?_
      refine E.blockX ?_
      exact E.joinJ ⟨gx2, rfl, rfl, h⟩ ⟨rfl, rfl, trivial⟩ (fun _ hw => hw)
  ·
    rintro _ _ ⟨gx1, rfl, rfl, h⟩
    rw [m46_vac_Read_K1] at h
    refine W.seq ?_
    refine W.seq ?_
    refine W.region ?_
    refine L.y rfl (Y.move rfl) ?_
    refine L.ite h rfl (Y.lss rfl rfl) (fun c1 h => ?_) (fun c1 h => ?_)
    ·
      refine L.nil ?_
      refine E.thenN ?_
      refine W.condT rfl ?_
      refine W.seq ?_
      refine W.region ?_
      refine L.y rfl (Y.assign rfl) ?_
      refine L.y rfl (Y.assign rfl) ?_
      refine L.nil ?_
      refine E.thenN ?_
      refine W.ret ?_
      refine E.thenR ?_
      refine E.ret2 rfl rfl rfl (fun w1 hw => ?_)
      obtain rfl := Option.some.inj h
      exact ⟨_, _, rfl, ⟨rfl, rfl⟩, hw⟩
    ·
      refine L.nil ?_
      refine E.thenN ?_
      refine W.condF rfl ?_
      refine W.skip ?_
      refine E.thenN ?_
      refine W.seq ?_
      refine W.region ?_
      refine L.y rfl (Y.move rfl) ?_
      refine L.y rfl (Y.move rfl) ?_
      refine L.m (V := fun _ => el u0 (gx1.toNat * 2)) h rfl (Y.indexM (g := TVersion.row) (l := a0) Try.underlying60 sz68 rfl rfl (fun w' hw => hA0.cls0 hw)) (fun x2 ex2 h => ?_)
      refine L.y rfl (Y.fieldE fd68_1 rfl) ?_
      refine L.y rfl (Y.loadE (u := st x2.Text) ag9 rfl (fun w' hw => hA0.cls0 hw) (idx_map ex2) rfl) ?_
      refine L.y rfl (Y.assign rfl) ?_
      refine L.y rfl (Y.assign rfl) ?_
      refine L.nil ?_
      refine E.thenN ?_
      refine W.ret ?_
      refine E.ret2 rfl rfl rfl (fun w1 hw => ?_)
      obtain rfl := Option.some.inj h
      exact ⟨_, _, rfl, ⟨rfl, rfl⟩, hw⟩
set_option maxRecDepth 100000 in
set_option maxHeartbeats 8000000 in
theorem w47_quirref_Read (a0 : (List TVersion)) (a1 : Int) (u0 : Value) (w : World) (r : ((List UInt8) × Bool)) (h : m47_quirref_Read a0 a1 = some r) (hA0 : At w u0 2 (a0.map TVersion.row)) : Does Try.prog 47 [u0, .int .i64 a1] w fun u m => u = .tuple #[st r.1, .bool r.2] ∧ m = [] := by
  rw [m47_quirref_Read] at h
  refine body (n := 26) Try.func47 rfl rfl rfl (Cls.refl w) ?_
  refine W.seq ?_
  refine W.region ?_
  refine L.y rfl (Y.assign rfl) ?_
  refine L.y rfl (Y.assign rfl) ?_
  refine L.nil ?_
  refine E.thenN ?_
  refine W.seqJ (fun gs D => gs = [] ∧ D = Cls w [] [] ∧ m47_quirref_Read_K1 = some r) ?_ ?_
  ·
    refine W.seq ?_
    refine W.region ?_
    refine L.y rfl (Y.move rfl) ?_
    refine L.y rfl (Y.lenM (g := TVersion.row) (l := a0) Try.underlying60 rfl (fun w' hw => hA0.cls0 hw)) ?_
    refine L.m (V := fun x1 => .int .i64 x1) h rfl (Y.subM rfl rfl) (fun x1 ex1 h => ?_)
    refine L.y rfl (Y.assign rfl) ?_
    refine L.nil ?_
    refine E.thenN ?_
    refine W.block ?_
    refine W.loopJ (fun m gs D => ∃ (gx1 : Int), gs = [(0, u0), (1, .int .i64 a1), (6, .int .i64 gx1)] ∧ D = Cls w [] [] ∧ m47_quirref_Read_L1 a0 a1 m gx1 = some r) ⟨x1, rfl, rfl, h⟩ ⟨rfl, rfl, rfl, trivial⟩ (fun _ hw => hw) ?_
    rintro m _ _ ⟨gx1, rfl, rfl, h⟩
    rcases m with _ | m
    · rw [m47_quirref_Read_L1] at h; cases h
    rw [m47_quirref_Read_L1] at h
    generalize hg1 : m47_quirref_Read_L1 a0 a1 m = go1 at h
    rw [m47_quirref_Read_L1B] at h
    refine W.seqJ (fun gs D => gs = [(0, u0), (1, .int .i64 a1), (6, .int .i64 gx1)] ∧ D = Cls w [] [] ∧ m47_quirref_Read_K2 a0 gx1 a1 go1 = some r) ?_ ?_
    ·
      refine W.seq ?_
      refine W.region ?_
      refine L.y rfl (Y.move rfl) ?_
      refine L.ite h rfl (Y.geq rfl rfl) (fun c6 h => ?_) (fun c6 h => ?_)
      ·
        refine L.nil ?_
        refine E.thenN ?_
        refine W.condT rfl ?_
        refine W.skip ?_
        exact E.joinJ ⟨rfl, rfl, h⟩ ⟨rfl, rfl, rfl, trivial⟩ (fun _ hw => hw)
      ·
        refine L.nil ?_
        refine E.thenN ?_
        refine W.condF rfl ?_
        refine W.exit ?_
        refine E.KSX ?_
        refine E.KLX ?_
        refine E.blockX ?_
        exact E.joinJ ⟨rfl, rfl, h⟩ trivial (fun _ hw => hw)
    ·
      rintro _ _ ⟨rfl, rfl, h⟩
      rw [m47_quirref_Read_K2] at h
      refine W.seq ?_
      refine W.block ?_
      refine W.seq ?_
      refine W.region ?_
      refine L.y rfl (Y.move rfl) ?_
      refine L.y rfl (Y.move rfl) ?_
      refine L.m (V := fun _ => el u0 (gx1.toNat * 2)) h rfl (Y.indexM (g := TVersion.row) (l := a0) Try.underlying60 sz68 rfl rfl (fun w' hw => hA0.cls0 hw)) (fun x2 ex2 h => ?_)
      refine L.y rfl (Y.fieldE fd68_0 rfl) ?_
      refine L.y rfl (Y.loadE (u := .int .i64 x2.At) ag3 rfl (fun w' hw => hA0.cls0 hw) (idx_map ex2) rfl) ?_
      refine L.y rfl (Y.move rfl) ?_
      refine L.ite h rfl (Y.leq rfl rfl) (fun c3 h => ?_) (fun c3 h => ?_)
      ·
        refine L.nil ?_
        refine E.thenN ?_
        refine W.condT rfl ?_
        refine W.seq ?_
        refine W.region ?_
        refine L.y rfl (Y.move rfl) ?_
        refine L.y rfl (Y.move rfl) ?_
        refine L.m (V := fun _ => el u0 (gx1.toNat * 2)) h rfl (Y.indexM (g := TVersion.row) (l := a0) Try.underlying60 sz68 rfl rfl (fun w' hw => hA0.cls0 hw)) (fun x4 ex4 h => ?_)
        refine L.y rfl (Y.fieldE fd68_1 rfl) ?_
        refine L.y rfl (Y.loadE (u := st x4.Text) ag9 rfl (fun w' hw => hA0.cls0 hw) (idx_map ex4) rfl) ?_
        refine L.y rfl (Y.assign rfl) ?_
        refine L.y rfl (Y.assign rfl) ?_
        refine L.nil ?_
        refine E.thenN ?_
        refine W.ret ?_
        refine E.blockR ?_
        refine E.thenR ?_
        refine E.KLR ?_
        refine E.blockR ?_
        refine E.KSR ?_
        refine E.ret2 rfl rfl rfl (fun w1 hw => ?_)
        obtain rfl := Option.some.inj h
        exact ⟨_, _, rfl, ⟨rfl, rfl⟩, hw⟩
      ·
        refine L.nil ?_
        refine E.thenN ?_
        refine W.condF rfl ?_
        refine W.skip ?_
        refine E.blockN ?_
        refine E.thenN ?_
        refine W.region ?_
        refine L.y rfl (Y.move rfl) ?_
        refine L.m (V := fun x5 => .int .i64 x5) h rfl (Y.subM rfl rfl) (fun x5 ex5 h => ?_)
        refine L.y rfl (Y.assign rfl) ?_
        refine L.nil ?_
        exact E.againJ ⟨x5, rfl, rfl, by rw [hg1]; exact h⟩ (Nat.lt_succ_self _) ⟨rfl, rfl, rfl, trivial⟩ (fun _ hw => hw)
  ·
    rintro _ _ ⟨rfl, rfl, h⟩
    rw [m47_quirref_Read_K1] at h
    refine W.seq ?_
    refine W.region ?_
    refine L.y rfl (Y.assign rfl) ?_
    refine L.y rfl (Y.assign rfl) ?_
    refine L.nil ?_
    refine E.thenN ?_
    refine W.ret ?_
    refine E.ret2 rfl rfl rfl (fun w1 hw => ?_)
    obtain rfl := Option.some.inj h
    exact ⟨_, _, rfl, ⟨rfl, rfl⟩, hw⟩
set_option maxRecDepth 100000 in
set_option maxHeartbeats 8000000 in
theorem w50_quirref_Keep (a0 : (List TVersion)) (a1 : (List Int)) (a2 : Int) (u0 : Value) (u1 : Value) (w : World) (r : (List TVersion)) (h : m50_quirref_Keep a0 a1 a2 = some r) (hA0 : At w u0 2 (a0.map TVersion.row)) (hA1 : At w u1 1 (a1.map I)) : Does Try.prog 50 [u0, u1, .int .i64 a2] w fun u m => ∃ v0, u = v0 ∧ m = [.sl v0 68 2 (r.map TVersion.row)] := by
  rw [m50_quirref_Keep] at h
  refine body (n := 33) Try.func50 rfl rfl rfl (Cls.refl w) ?_
  refine W.seq ?_
  refine W.region ?_
  refine L.boxV rfl rfl (fun _ hw => (At.cls0 hA0 hw).one) ?_
  intro b1
  refine L.y rfl (Y.assign rfl) ?_
  refine L.nil ?_
  refine E.thenN ?_
  refine W.seq ?_
  refine W.region ?_
  refine L.y rfl (Y.assign rfl) ?_
  refine L.nil ?_
  refine E.thenN ?_
  refine W.seqJ (fun gs D => ∃ (gv1 : Value) (gl2 : (List TVersion)), gs = [(7, gv1)] ∧ D = Cls w [] [.sl gv1 68 2 (gl2.map TVersion.row)] ∧ m50_quirref_Keep_K1 gl2 = some r) ?_ ?_
  ·
    refine W.seq ?_
    refine W.region ?_
    refine L.y rfl (Y.loadP (i := 0) ag60 rfl rfl rfl) ?_
    refine L.y rfl (Y.lenM (g := TVersion.row) (l := a0) Try.underlying60 rfl (fun w' hw => hA0.cls0 hw)) ?_
    refine L.y rfl (Y.move rfl) ?_
    refine L.nil ?_
    refine E.thenN ?_
    refine W.block ?_
    refine W.nilSl 68 2 ?_
    refine W.loopJ (fun m gs D => ∃ (gv3 : Value) (gl4 : (List TVersion)) (gx5 : Int), gs = [(1, u1), (2, .int .i64 a2), (3, pt b1 0), (7, gv3), (11, u0), (12, .int .i64 (a0.length : Int)), (13, .int .i64 gx5)] ∧ D = Cls w [] [.obj b1 [u0] 60, .sl gv3 68 2 (gl4.map TVersion.row)] ∧ m50_quirref_Keep_L1 a0 a2 a1 m gl4 gx5 = some r) ⟨.slice none 0 0, [], 0, rfl, rfl, h⟩ ⟨rfl, rfl, rfl, rfl, rfl, rfl, rfl, trivial⟩ (fun _ hw => hw.sel [1, 0] (by decide) rfl) ?_
    rintro m _ _ ⟨gv3, gl4, gx5, rfl, rfl, h⟩
    rcases m with _ | m
    · rw [m50_quirref_Keep_L1] at h; cases h
    rw [m50_quirref_Keep_L1] at h
    generalize hg1 : m50_quirref_Keep_L1 a0 a2 a1 m = go1 at h
    rw [m50_quirref_Keep_L1B] at h
    refine W.seq ?_
    refine W.region ?_
    refine L.ite h rfl (Y.lss rfl rfl) (fun c2 h => ?_) (fun c2 h => ?_)
    ·
      refine L.nil ?_
      refine E.thenN ?_
      refine W.seq ?_
      refine W.condT rfl ?_
      refine W.skip ?_
      refine E.thenN ?_
      refine W.seq ?_
      refine W.block ?_
      refine W.seq ?_
      refine W.region ?_
      refine L.y rfl (Y.move rfl) ?_
      refine L.m (V := fun _ => el u0 (gx5.toNat * 2)) h rfl (Y.indexM (g := TVersion.row) (l := a0) Try.underlying60 sz68 rfl rfl (fun w' hw => hA0.cls0 hw)) (fun x3 ex3 h => ?_)
      refine L.y rfl (Y.loadEN (r := [.int .i64 x3.At, st x3.Text]) ag68 sz68 rfl (fun w' hw => hA0.cls0 hw) (idx_map ex3) rfl) ?_
      refine L.alloc rfl ze3 ?_
      intro b4
      refine L.alloc rfl ze68 ?_
      intro b5
      refine L.store (i := 1) sz3 rfl rfl rfl rfl (by simp [Value.oneCell', Value.cells, st]) rfl (Nat.le_of_ble_eq_true rfl) ?_
      refine L.store (i := 0) sz68 rfl rfl rfl rfl (by simp [Value.oneCell', Value.cells, st]) rfl (Nat.le_of_ble_eq_true rfl) ?_
      refine L.nil ?_
      refine E.thenN ?_
      refine W.seq ?_
      refine W.region ?_
      refine L.y rfl (Y.func rfl) ?_
      refine L.y rfl (Y.assign rfl) ?_
      refine L.nil ?_
      refine E.thenN ?_
      refine W.seq ?_
      refine W.region ?_
      refine L.y rfl (Y.move rfl) ?_
      refine L.y rfl (Y.move rfl) ?_
      refine L.callVJ (fun v D => ∃ (gb6 : Bool), v = .bool gb6 ∧ D = Cls w [] [.obj b5 [.int .i64 x3.At, st x3.Text] 68, .obj b4 [.int .i64 gx5] 3, .obj b1 [u0] 60, .sl gv3 68 2 (gl4.map TVersion.row)] ∧ m50_quirref_Keep_K2 gl4 x3 gx5 go1 a1 a0 gb6 = some r) rfl en106 rfl rfl Try.func106 rfl rfl rfl ?_ ?_
      ·
        refine W.seq ?_
        refine W.region ?_
        refine L.y rfl (Y.assign rfl) ?_
        refine L.nil ?_
        refine E.thenN ?_
        refine W.seq ?_
        refine W.region ?_
        refine L.cutJ 21 (fun gs D => ∃ (gb12 : Bool), gs = [(26, .bool gb12)] ∧ D = Cls w [] [.obj b5 [.int .i64 x3.At, st x3.Text] 68, .obj b4 [.int .i64 gx5] 3, .obj b1 [u0] 60, .sl gv3 68 2 (gl4.map TVersion.row)] ∧ m50_quirref_Keep_K8 gl4 x3 gx5 go1 a1 a0 gb12 = some r) ?_ ?_
        ·
          refine L.y rfl (Y.fieldP fd68_0 rfl) ?_
          refine L.y rfl (Y.loadP (i := 0) ag3 rfl rfl rfl) ?_
          refine L.y rfl (Y.move rfl) ?_
          refine L.ite h rfl (Y.leq rfl rfl) (fun c23 h => ?_) (fun c23 h => ?_)
          ·
            refine L.y rfl (Y.move rfl) ?_
            refine L.take rfl ?_
            refine L.y rfl (Y.loadP (i := 1) ag3 rfl rfl rfl) ?_
            refine L.take rfl ?_
            refine L.m (V := fun x24 => .int .i64 x24) h rfl (Y.addM rfl rfl) (fun x24 ex24 h => ?_)
            refine L.take rfl ?_
            refine L.y rfl (Y.loadP (i := 2) ag60 rfl rfl rfl) ?_
            refine L.take rfl ?_
            refine L.y rfl (Y.lenM (g := TVersion.row) (l := a0) Try.underlying60 rfl (fun w' hw => hA0.cls0 hw)) ?_
            refine L.take rfl ?_
            refine L.ite h rfl (Y.eql rfl rfl) (fun c25 h => ?_) (fun c25 h => ?_)
            ·
              refine L.take rfl ?_
              refine L.y rfl (Y.move rfl) ?_
              refine L.pass rfl rfl (by nofun) ?_
              refine L.pass rfl rfl (by nofun) ?_
              refine L.pass rfl rfl (by nofun) ?_
              refine L.pass rfl rfl (by nofun) ?_
              refine L.pass rfl rfl (by nofun) ?_
              refine L.pass rfl rfl (by nofun) ?_
              refine L.pass rfl rfl (by nofun) ?_
              refine L.pass rfl rfl (by nofun) ?_
              refine L.take rfl ?_
              refine L.y rfl (Y.pickT rfl rfl) ?_
              refine L.y rfl (Y.pickT rfl rfl) ?_
              refine L.nil ?_
              exact E.joinJ ⟨true, rfl, rfl, h⟩ ⟨rfl, trivial⟩ (fun _ hw => hw)
            ·
              refine L.take rfl ?_
              refine L.y rfl (Y.move rfl) ?_
              refine L.take rfl ?_
              refine L.y rfl (Y.loadP (i := 2) ag60 rfl rfl rfl) ?_
              refine L.take rfl ?_
              refine L.y rfl (Y.loadP (i := 1) ag3 rfl rfl rfl) ?_
              refine L.take rfl ?_
              refine L.m (V := fun x26 => .int .i64 x26) h rfl (Y.addM rfl rfl) (fun x26 ex26 h => ?_)
              refine L.take rfl ?_
              refine L.m (V := fun _ => el u0 (x26.toNat * 2)) h rfl (Y.indexM (g := TVersion.row) (l := a0) Try.underlying60 sz68 rfl rfl (fun w' hw => hA0.cls0 hw)) (fun x27 ex27 h => ?_)
              refine L.take rfl ?_
              refine L.y rfl (Y.fieldE fd68_0 rfl) ?_
              refine L.take rfl ?_
              refine L.y rfl (Y.loadE (u := .int .i64 x27.At) ag3 rfl (fun w' hw => hA0.cls0 hw) (idx_map ex27) rfl) ?_
              refine L.take rfl ?_
              refine L.y rfl (Y.move rfl) ?_
              refine L.take rfl ?_
              refine L.y rfl (Y.gtr rfl rfl) ?_
              refine L.take rfl ?_
              refine L.y rfl (Y.pickF rfl rfl) ?_
              refine L.y rfl (Y.pickT rfl rfl) ?_
              refine L.nil ?_
              exact E.joinJ ⟨decide (a2 < x27.At), rfl, rfl, h⟩ ⟨rfl, trivial⟩ (fun _ hw => hw)
          ·
            refine L.y rfl (Y.move rfl) ?_
            refine L.pass rfl rfl (by nofun) ?_
            refine L.pass rfl rfl (by nofun) ?_
            refine L.pass rfl rfl (by nofun) ?_
            refine L.pass rfl rfl (by nofun) ?_
            refine L.pass rfl rfl (by nofun) ?_
            refine L.pass rfl rfl (by nofun) ?_
            refine L.pass rfl rfl (by nofun) ?_
            refine L.pass rfl rfl (by nofun) ?_
            refine L.pass rfl rfl (by nofun) ?_
            refine L.pass rfl rfl (by nofun) ?_
            refine L.pass rfl rfl (by nofun) ?_
            refine L.pass rfl rfl (by nofun) ?_
            refine L.pass rfl rfl (by nofun) ?_
            refine L.pass rfl rfl (by nofun) ?_
            refine L.pass rfl rfl (by nofun) ?_
            refine L.y rfl (Y.pickF rfl rfl) ?_
            refine L.nil ?_
            exact E.joinJ ⟨false, rfl, rfl, h⟩ ⟨rfl, trivial⟩ (fun _ hw => hw)
        ·
          rintro _ _ ⟨gb12, rfl, rfl, h⟩
          rw [m50_quirref_Keep_K8] at h
          refine L.y rfl (Y.assign rfl) ?_
          refine L.nil ?_
          refine E.thenN ?_
          refine W.ret ?_
          refine E.ret1 rfl rfl (fun w1 hw => ?_)
          exact ⟨_, _, rfl, ⟨gb12, rfl, rfl, h⟩, hw⟩
      ·
        rintro _ _ ⟨gb6, rfl, rfl, h⟩
        rw [m50_quirref_Keep_K2] at h
        rcases gb6 with _ | _
        ·
          replace h := iteF h
          refine L.y rfl (Y.move rfl) ?_
          refine L.take rfl ?_
          refine L.y rfl (Y.move rfl) ?_
          refine L.take rfl ?_
          refine L.y rfl (Y.move rfl) ?_
          refine L.take rfl ?_
          refine L.callJ (fun v D => ∃ (gb7 : Bool), v = .bool gb7 ∧ D = Cls w [] [.obj b5 [.int .i64 x3.At, st x3.Text] 68, .obj b4 [.int .i64 gx5] 3, .obj b1 [u0] 60, .sl gv3 68 2 (gl4.map TVersion.row)] ∧ m50_quirref_Keep_K3 gl4 x3 gx5 go1 gb7 = some r) rfl en78 rfl Try.func78 rfl rfl rfl ?_ ?_
          ·
            refine W.seq ?_
            refine W.region ?_
            refine L.y rfl (Y.assign rfl) ?_
            refine L.nil ?_
            refine E.thenN ?_
            refine W.seq ?_
            refine W.region ?_
            refine L.y rfl (Y.move rfl) ?_
            refine L.y rfl (Y.move rfl) ?_
            refine L.callJ (fun v D => ∃ (gx8 : Int), v = .int .i64 gx8 ∧ D = Cls w [] [.obj b5 [.int .i64 x3.At, st x3.Text] 68, .obj b4 [.int .i64 gx5] 3, .obj b1 [u0] 60, .sl gv3 68 2 (gl4.map TVersion.row)] ∧ m50_quirref_Keep_K4 gl4 x3 gx5 go1 gx8 = some r) rfl en133 rfl Try.func133 rfl rfl rfl ?_ ?_
            ·
              refine W.seq ?_
              refine W.region ?_
              refine L.y rfl (Y.assign rfl) ?_
              refine L.nil ?_
              refine E.thenN ?_
              refine W.seqJ (fun gs D => gs = [] ∧ D = Cls w [] [.obj b5 [.int .i64 x3.At, st x3.Text] 68, .obj b4 [.int .i64 gx5] 3, .obj b1 [u0] 60, .sl gv3 68 2 (gl4.map TVersion.row)] ∧ m50_quirref_Keep_K5 gl4 x3 gx5 go1 = some r) ?_ ?_
              ·
                refine W.seq ?_
                refine W.region ?_
                refine L.y rfl (Y.move rfl) ?_
                refine L.y rfl (Y.lenM (g := I) (l := a1) Try.underlying24 rfl (fun w' hw => hA1.cls0 hw)) ?_
                refine L.y rfl (Y.move rfl) ?_
                refine L.nil ?_
                refine E.thenN ?_
                refine W.block ?_
                refine W.loopJ (fun m gs D => ∃ (gx9 : Int), gs = [(0, u1), (1, .func (.func 106) #[] #[pt b5 0, pt b4 0, pt b1 0]), (7, .int .i64 (a1.length : Int)), (8, .int .i64 gx9)] ∧ D = Cls w [] [.obj b5 [.int .i64 x3.At, st x3.Text] 68, .obj b4 [.int .i64 gx5] 3, .obj b1 [u0] 60, .sl gv3 68 2 (gl4.map TVersion.row)] ∧ m50_quirref_Keep_L2 a1 x3 gx5 a0 gl4 go1 m gx9 = some r) ⟨0, rfl, rfl, h⟩ ⟨rfl, rfl, rfl, rfl, trivial⟩ (fun _ hw => hw) ?_
                rintro m _ _ ⟨gx9, rfl, rfl, h⟩
                rcases m with _ | m
                · rw [m50_quirref_Keep_L2] at h; cases h
                rw [m50_quirref_Keep_L2] at h
                generalize hg2 : m50_quirref_Keep_L2 a1 x3 gx5 a0 gl4 go1 m = go2 at h
                rw [m50_quirref_Keep_L2B] at h
                refine W.seq ?_
                refine W.region ?_
                refine L.ite h rfl (Y.lss rfl rfl) (fun c11 h => ?_) (fun c11 h => ?_)
                ·
                  refine L.nil ?_
                  refine E.thenN ?_
                  refine W.seq ?_
                  refine W.condT rfl ?_
                  refine W.skip ?_
                  refine E.thenN ?_
                  refine W.seq ?_
                  refine W.block ?_
                  refine W.seq ?_
                  refine W.region ?_
                  refine L.y rfl (Y.move rfl) ?_
                  refine L.y rfl (Y.assign rfl) ?_
                  refine L.nil ?_
                  refine E.thenN ?_
                  refine W.seq ?_
                  refine W.region ?_
                  refine L.y rfl (Y.move rfl) ?_
                  refine L.y rfl (Y.move rfl) ?_
                  refine L.y rfl (Y.move rfl) ?_
                  refine L.m (V := fun _ => el u1 (gx9.toNat * 1)) h rfl (Y.indexM (g := I) (l := a1) Try.underlying24 sz3 rfl rfl (fun w' hw => hA1.cls0 hw)) (fun x12 ex12 h => ?_)
                  refine L.y rfl (Y.loadE1 (u := .int .i64 x12) ag3 rfl (fun w' hw => hA1.cls0 hw) (idx_map ex12)) ?_
                  refine L.callVJ (fun v D => ∃ (gb10 : Bool), v = .bool gb10 ∧ D = Cls w [] [.obj b5 [.int .i64 x3.At, st x3.Text] 68, .obj b4 [.int .i64 gx5] 3, .obj b1 [u0] 60, .sl gv3 68 2 (gl4.map TVersion.row)] ∧ m50_quirref_Keep_K6 gl4 x3 gx5 go1 gx9 go2 gb10 = some r) rfl en106 rfl rfl Try.func106 rfl rfl rfl ?_ ?_
                  ·
                    refine W.seq ?_
                    refine W.region ?_
                    refine L.y rfl (Y.assign rfl) ?_
                    refine L.nil ?_
                    refine E.thenN ?_
                    refine W.seq ?_
                    refine W.region ?_
                    refine L.cutJ 21 (fun gs D => ∃ (gb11 : Bool), gs = [(26, .bool gb11)] ∧ D = Cls w [] [.obj b5 [.int .i64 x3.At, st x3.Text] 68, .obj b4 [.int .i64 gx5] 3, .obj b1 [u0] 60, .sl gv3 68 2 (gl4.map TVersion.row)] ∧ m50_quirref_Keep_K7 gl4 x3 gx5 go1 gx9 go2 gb11 = some r) ?_ ?_
                    ·
                      refine L.y rfl (Y.fieldP fd68_0 rfl) ?_
                      refine L.y rfl (Y.loadP (i := 0) ag3 rfl rfl rfl) ?_
                      refine L.y rfl (Y.move rfl) ?_
                      refine L.ite h rfl (Y.leq rfl rfl) (fun c14 h => ?_) (fun c14 h => ?_)
                      ·
                        refine L.y rfl (Y.move rfl) ?_
                        refine L.take rfl ?_
                        refine L.y rfl (Y.loadP (i := 1) ag3 rfl rfl rfl) ?_
                        refine L.take rfl ?_
                        refine L.m (V := fun x15 => .int .i64 x15) h rfl (Y.addM rfl rfl) (fun x15 ex15 h => ?_)
                        refine L.take rfl ?_
                        refine L.y rfl (Y.loadP (i := 2) ag60 rfl rfl rfl) ?_
                        refine L.take rfl ?_
                        refine L.y rfl (Y.lenM (g := TVersion.row) (l := a0) Try.underlying60 rfl (fun w' hw => hA0.cls0 hw)) ?_
                        refine L.take rfl ?_
                        refine L.ite h rfl (Y.eql rfl rfl) (fun c16 h => ?_) (fun c16 h => ?_)
                        ·
                          refine L.take rfl ?_
                          refine L.y rfl (Y.move rfl) ?_
                          refine L.pass rfl rfl (by nofun) ?_
                          refine L.pass rfl rfl (by nofun) ?_
                          refine L.pass rfl rfl (by nofun) ?_
                          refine L.pass rfl rfl (by nofun) ?_
                          refine L.pass rfl rfl (by nofun) ?_
                          refine L.pass rfl rfl (by nofun) ?_
                          refine L.pass rfl rfl (by nofun) ?_
                          refine L.pass rfl rfl (by nofun) ?_
                          refine L.take rfl ?_
                          refine L.y rfl (Y.pickT rfl rfl) ?_
                          refine L.y rfl (Y.pickT rfl rfl) ?_
                          refine L.nil ?_
                          exact E.joinJ ⟨true, rfl, rfl, h⟩ ⟨rfl, trivial⟩ (fun _ hw => hw)
                        ·
                          refine L.take rfl ?_
                          refine L.y rfl (Y.move rfl) ?_
                          refine L.take rfl ?_
                          refine L.y rfl (Y.loadP (i := 2) ag60 rfl rfl rfl) ?_
                          refine L.take rfl ?_
                          refine L.y rfl (Y.loadP (i := 1) ag3 rfl rfl rfl) ?_
                          refine L.take rfl ?_
                          refine L.m (V := fun x17 => .int .i64 x17) h rfl (Y.addM rfl rfl) (fun x17 ex17 h => ?_)
                          refine L.take rfl ?_
                          refine L.m (V := fun _ => el u0 (x17.toNat * 2)) h rfl (Y.indexM (g := TVersion.row) (l := a0) Try.underlying60 sz68 rfl rfl (fun w' hw => hA0.cls0 hw)) (fun x18 ex18 h => ?_)
                          refine L.take rfl ?_
                          refine L.y rfl (Y.fieldE fd68_0 rfl) ?_
                          refine L.take rfl ?_
                          refine L.y rfl (Y.loadE (u := .int .i64 x18.At) ag3 rfl (fun w' hw => hA0.cls0 hw) (idx_map ex18) rfl) ?_
                          refine L.take rfl ?_
                          refine L.y rfl (Y.move rfl) ?_
                          refine L.take rfl ?_
                          refine L.y rfl (Y.gtr rfl rfl) ?_
                          refine L.take rfl ?_
                          refine L.y rfl (Y.pickF rfl rfl) ?_
                          refine L.y rfl (Y.pickT rfl rfl) ?_
                          refine L.nil ?_
                          exact E.joinJ ⟨decide (x12 < x18.At), rfl, rfl, h⟩ ⟨rfl, trivial⟩ (fun _ hw => hw)
                      ·
                        refine L.y rfl (Y.move rfl) ?_
                        refine L.pass rfl rfl (by nofun) ?_
                        refine L.pass rfl rfl (by nofun) ?_
                        refine L.pass rfl rfl (by nofun) ?_
                        refine L.pass rfl rfl (by nofun) ?_
                        refine L.pass rfl rfl (by nofun) ?_
                        refine L.pass rfl rfl (by nofun) ?_
                        refine L.pass rfl rfl (by nofun) ?_
                        refine L.pass rfl rfl (by nofun) ?_
                        refine L.pass rfl rfl (by nofun) ?_
                        refine L.pass rfl rfl (by nofun) ?_
                        refine L.pass rfl rfl (by nofun) ?_
                        refine L.pass rfl rfl (by nofun) ?_
                        refine L.pass rfl rfl (by nofun) ?_
                        refine L.pass rfl rfl (by nofun) ?_
                        refine L.pass rfl rfl (by nofun) ?_
                        refine L.y rfl (Y.pickF rfl rfl) ?_
                        refine L.nil ?_
                        exact E.joinJ ⟨false, rfl, rfl, h⟩ ⟨rfl, trivial⟩ (fun _ hw => hw)
                    ·
                      rintro _ _ ⟨gb11, rfl, rfl, h⟩
                      rw [m50_quirref_Keep_K7] at h
                      refine L.y rfl (Y.assign rfl) ?_
                      refine L.nil ?_
                      refine E.thenN ?_
                      refine W.ret ?_
                      refine E.ret1 rfl rfl (fun w1 hw => ?_)
                      exact ⟨_, _, rfl, ⟨gb11, rfl, rfl, h⟩, hw⟩
                  ·
                    rintro _ _ ⟨gb10, rfl, rfl, h⟩
                    rw [m50_quirref_Keep_K6] at h
                    rcases gb10 with _ | _
                    ·
                      replace h := iteF h
                      refine L.nil ?_
                      refine E.thenN ?_
                      refine W.condF rfl ?_
                      refine W.skip ?_
                      refine E.blockN ?_
                      refine E.thenN ?_
                      refine W.region ?_
                      refine L.m (V := fun x13 => .int .i64 x13) h rfl (Y.addM rfl rfl) (fun x13 ex13 h => ?_)
                      refine L.y rfl (Y.move rfl) ?_
                      refine L.nil ?_
                      exact E.againJ ⟨x13, rfl, rfl, by rw [hg2]; exact h⟩ (Nat.lt_succ_self _) ⟨rfl, rfl, rfl, rfl, trivial⟩ (fun _ hw => hw)
                    ·
                      replace h := iteT h
                      refine L.nil ?_
                      refine E.thenN ?_
                      refine W.condT rfl ?_
                      refine W.seq ?_
                      refine W.region ?_
                      refine L.y rfl (Y.move rfl) ?_
                      refine L.y rfl (Y.assign rfl) ?_
                      refine L.nil ?_
                      refine E.thenN ?_
                      refine W.ret ?_
                      refine E.blockR ?_
                      refine E.thenR ?_
                      refine E.KLR ?_
                      refine E.blockR ?_
                      refine E.KSR ?_
                      refine E.ret1 rfl rfl (fun w1 hw => ?_)
                      exact ⟨_, _, rfl, ⟨gx9, rfl, rfl, h⟩, hw⟩
                ·
                  refine L.nil ?_
                  refine E.thenN ?_
                  refine W.seq ?_
                  refine W.condF rfl ?_
                  refine W.exit ?_
                  refine E.thenX ?_
                  refine E.KLX ?_
                  refine E.blockX ?_
                  exact E.joinJ ⟨rfl, rfl, h⟩ trivial (fun _ hw => hw)
              ·
                rintro _ _ ⟨rfl, rfl, h⟩
                rw [m50_quirref_Keep_K5] at h
                refine W.seq ?_
                refine W.region ?_
                refine L.y rfl (Y.assign rfl) ?_
                refine L.nil ?_
                refine E.thenN ?_
                refine W.ret ?_
                refine E.ret1 rfl rfl (fun w1 hw => ?_)
                exact ⟨_, _, rfl, ⟨(-1), rfl, rfl, h⟩, hw⟩
            ·
              rintro _ _ ⟨gx8, rfl, rfl, h⟩
              rw [m50_quirref_Keep_K4] at h
              refine L.y rfl (Y.geq rfl rfl) ?_
              refine L.y rfl (Y.assign rfl) ?_
              refine L.nil ?_
              refine E.thenN ?_
              refine W.ret ?_
              refine E.ret1 rfl rfl (fun w1 hw => ?_)
              exact ⟨_, _, rfl, ⟨decide (0 ≤ gx8), rfl, rfl, h⟩, hw⟩
          ·
            rintro _ _ ⟨gb7, rfl, rfl, h⟩
            rw [m50_quirref_Keep_K3] at h
            rcases gb7 with _ | _
            ·
              replace h := iteF h
              refine L.y rfl (Y.pickF rfl rfl) ?_
              refine L.nil ?_
              refine E.thenN ?_
              refine W.condF rfl ?_
              refine W.skip ?_
              refine E.blockN ?_
              refine E.thenN ?_
              refine W.region ?_
              refine L.m (V := fun x6 => .int .i64 x6) h rfl (Y.addM rfl rfl) (fun x6 ex6 h => ?_)
              refine L.y rfl (Y.move rfl) ?_
              refine L.nil ?_
              exact E.againJ ⟨gv3, gl4, x6, rfl, rfl, by rw [hg1]; exact h⟩ (Nat.lt_succ_self _) ⟨rfl, rfl, rfl, rfl, rfl, rfl, rfl, trivial⟩ (fun _ hw => hw.sel [2, 3] (by decide) rfl)
            ·
              replace h := iteT h
              refine L.y rfl (Y.pickF rfl rfl) ?_
              refine L.nil ?_
              refine E.thenN ?_
              refine W.condT rfl ?_
              refine W.region ?_
              refine L.y rfl (Y.move rfl) ?_
              refine L.y rfl (Y.loadPW (i := 0) ag68 sz68 rfl rfl rfl) ?_
              refine L.litAgg rfl Try.underlying60 el68 rfl rfl rfl ?_
              intro b7
              refine L.appM (i := 4) (g := TVersion.row) (l := gl4) (more := [x3]) h rfl Try.underlying60 el68 rfl rfl rfl (fun w hw => As.at_ (hw.get (i := 0) rfl)) (plain_TVersion _) rfl ?_
              intro v8 l9 el9 h
              refine L.y rfl (Y.assign rfl) ?_
              refine L.nil ?_
              refine E.blockN ?_
              refine E.thenN ?_
              refine W.region ?_
              refine L.m (V := fun x10 => .int .i64 x10) h rfl (Y.addM rfl rfl) (fun x10 ex10 h => ?_)
              refine L.y rfl (Y.move rfl) ?_
              refine L.nil ?_
              exact E.againJ ⟨v8, l9, x10, rfl, rfl, by rw [hg1]; exact h⟩ (Nat.lt_succ_self _) ⟨rfl, rfl, rfl, rfl, rfl, rfl, rfl, trivial⟩ (fun _ hw => hw.sel [4, 0] (by decide) rfl)
        ·
          replace h := iteT h
          refine L.y rfl (Y.move rfl) ?_
          refine L.pass rfl rfl (by nofun) ?_
          refine L.pass rfl rfl (by nofun) ?_
          refine L.pass rfl rfl (by nofun) ?_
          refine L.y rfl (Y.pickT rfl rfl) ?_
          refine L.nil ?_
          refine E.thenN ?_
          refine W.condT rfl ?_
          refine W.region ?_
          refine L.y rfl (Y.move rfl) ?_
          refine L.y rfl (Y.loadPW (i := 0) ag68 sz68 rfl rfl rfl) ?_
          refine L.litAgg rfl Try.underlying60 el68 rfl rfl rfl ?_
          intro b19
          refine L.appM (i := 4) (g := TVersion.row) (l := gl4) (more := [x3]) h rfl Try.underlying60 el68 rfl rfl rfl (fun w hw => As.at_ (hw.get (i := 0) rfl)) (plain_TVersion _) rfl ?_
          intro v20 l21 el21 h
          refine L.y rfl (Y.assign rfl) ?_
          refine L.nil ?_
          refine E.blockN ?_
          refine E.thenN ?_
          refine W.region ?_
          refine L.m (V := fun x22 => .int .i64 x22) h rfl (Y.addM rfl rfl) (fun x22 ex22 h => ?_)
          refine L.y rfl (Y.move rfl) ?_
          refine L.nil ?_
          exact E.againJ ⟨v20, l21, x22, rfl, rfl, by rw [hg1]; exact h⟩ (Nat.lt_succ_self _) ⟨rfl, rfl, rfl, rfl, rfl, rfl, rfl, trivial⟩ (fun _ hw => hw.sel [4, 0] (by decide) rfl)
    ·
      refine L.nil ?_
      refine E.thenN ?_
      refine W.seq ?_
      refine W.condF rfl ?_
      refine W.exit ?_
      refine E.thenX ?_
      refine E.KLX ?_
      refine E.blockX ?_
      exact E.joinJ ⟨gv3, gl4, rfl, rfl, h⟩ ⟨rfl, trivial⟩ (fun _ hw => hw.sel [1] (by decide) rfl)
  ·
    rintro _ _ ⟨gv1, gl2, rfl, rfl, h⟩
    rw [m50_quirref_Keep_K1] at h
    refine W.seq ?_
    refine W.region ?_
    refine L.y rfl (Y.move rfl) ?_
    refine L.y rfl (Y.assign rfl) ?_
    refine L.nil ?_
    refine E.thenN ?_
    refine W.ret ?_
    refine E.ret1 rfl rfl (fun w1 hw => ?_)
    obtain rfl := Option.some.inj h
    exact ⟨_, _, rfl, ⟨_, rfl, rfl⟩, hw⟩
set_option maxRecDepth 100000 in
set_option maxHeartbeats 8000000 in
theorem w49_api_Version (a0 : (List TVersion)) (a1 : (List TVersion)) (u0 : Value) (u1 : Value) (w : World) (r : Bool) (h : m49_api_Version a0 a1 = some r) (hA0 : At w u0 2 (a0.map TVersion.row)) (hA1 : At w u1 2 (a1.map TVersion.row)) : Does Try.prog 49 [u0, u1] w fun u m => u = .bool r ∧ m = [] := by
  rw [m49_api_Version] at h
  refine body (n := 26) Try.func49 rfl rfl rfl (Cls.refl w) ?_
  refine W.seq ?_
  refine W.region ?_
  refine L.y rfl (Y.assign rfl) ?_
  refine L.nil ?_
  refine E.thenN ?_
  refine W.seqJ (fun gs D => gs = [(0, u0), (1, u1)] ∧ D = Cls w [] [] ∧ m49_api_Version_K1 a0 a1 = some r) ?_ ?_
  ·
    refine W.seq ?_
    refine W.region ?_
    refine L.y rfl (Y.move rfl) ?_
    refine L.y rfl (Y.lenM (g := TVersion.row) (l := a0) Try.underlying60 rfl (fun w' hw => hA0.cls0 hw)) ?_
    refine L.y rfl (Y.move rfl) ?_
    refine L.y rfl (Y.lenM (g := TVersion.row) (l := a1) Try.underlying60 rfl (fun w' hw => hA1.cls0 hw)) ?_
    refine L.ite h rfl (Y.neq rfl rfl) (fun c6 h => ?_) (fun c6 h => ?_)
    ·
      refine L.nil ?_
      refine E.thenN ?_
      refine W.condT rfl ?_
      refine W.seq ?_
      refine W.region ?_
      refine L.y rfl (Y.assign rfl) ?_
      refine L.nil ?_
      refine E.thenN ?_
      refine W.ret ?_
      refine E.KSR ?_
      refine E.ret1 rfl rfl (fun w1 hw => ?_)
      obtain rfl := Option.some.inj h
      exact ⟨_, _, rfl, ⟨rfl, rfl⟩, hw⟩
    ·
      refine L.nil ?_
      refine E.thenN ?_
      refine W.condF rfl ?_
      refine W.skip ?_
      exact E.joinJ ⟨rfl, rfl, h⟩ ⟨rfl, rfl, trivial⟩ (fun _ hw => hw)
  ·
    rintro _ _ ⟨rfl, rfl, h⟩
    rw [m49_api_Version_K1] at h
    refine W.seqJ (fun gs D => gs = [] ∧ D = Cls w [] [] ∧ m49_api_Version_K2 = some r) ?_ ?_
    ·
      refine W.seq ?_
      refine W.region ?_
      refine L.y rfl (Y.move rfl) ?_
      refine L.y rfl (Y.lenM (g := TVersion.row) (l := a0) Try.underlying60 rfl (fun w' hw => hA0.cls0 hw)) ?_
      refine L.y rfl (Y.move rfl) ?_
      refine L.nil ?_
      refine E.thenN ?_
      refine W.block ?_
      refine W.loopJ (fun m gs D => ∃ (gx1 : Int), gs = [(0, u0), (1, u1), (12, .int .i64 (a0.length : Int)), (13, .int .i64 gx1)] ∧ D = Cls w [] [] ∧ m49_api_Version_L1 a0 a1 m gx1 = some r) ⟨0, rfl, rfl, h⟩ ⟨rfl, rfl, rfl, rfl, trivial⟩ (fun _ hw => hw) ?_
      rintro m _ _ ⟨gx1, rfl, rfl, h⟩
      rcases m with _ | m
      · rw [m49_api_Version_L1] at h; cases h
      rw [m49_api_Version_L1] at h
      generalize hg1 : m49_api_Version_L1 a0 a1 m = go1 at h
      rw [m49_api_Version_L1B] at h
      refine W.seq ?_
      refine W.region ?_
      refine L.ite h rfl (Y.lss rfl rfl) (fun c1 h => ?_) (fun c1 h => ?_)
      ·
        refine L.nil ?_
        refine E.thenN ?_
        refine W.seq ?_
        refine W.condT rfl ?_
        refine W.skip ?_
        refine E.thenN ?_
        refine W.seq ?_
        refine W.block ?_
        refine W.seq ?_
        refine W.region ?_
        refine L.y rfl (Y.move rfl) ?_
        refine L.y rfl (Y.assign rfl) ?_
        refine L.nil ?_
        refine E.thenN ?_
        refine W.seq ?_
        refine W.quietC mixed (by kernel_rfl) (fun _ hw => hw.drew) (fun hC => ?_)
        refine U.y rfl (Y.move rfl) ?_
        refine U.y rfl (Y.move rfl) ?_
        refine U.m (V := fun _ => el u0 (gx1.toNat * 2)) h rfl (Y.indexM (g := TVersion.row) (l := a0) Try.underlying60 sz68 rfl rfl (fun w' hw => hA0.cls0 hw)) (fun x2 ex2 h => ?_)
        refine U.y rfl (Y.loadEN (r := [.int .i64 x2.At, st x2.Text]) ag68 sz68 rfl (fun w' hw => hA0.cls0 hw) (idx_map ex2) rfl) ?_
        refine U.y rfl (Y.move rfl) ?_
        refine U.y rfl (Y.move rfl) ?_
        refine U.m (V := fun _ => el u1 (gx1.toNat * 2)) h rfl (Y.indexM (g := TVersion.row) (l := a1) Try.underlying60 sz68 rfl rfl (fun w' hw => hA1.cls0 hw)) (fun x3 ex3 h => ?_)
        refine U.y rfl (Y.loadEN (r := [.int .i64 x3.At, st x3.Text]) ag68 sz68 rfl (fun w' hw => hA1.cls0 hw) (idx_map ex3) rfl) ?_
        refine U.ite h rfl (Y.neqA (row := TVersion.row) (a := x2) (b := x3) eg68 ag68 (sh68 _) (sh68 _) (inj68 _ _) rfl rfl) (fun c4 h => ?_) (fun c4 h => ?_)
        ·
          refine U.nil ?_
          refine E.thenN ?_
          refine W.condT rfl ?_
          refine W.seq ?_
          refine W.region ?_
          refine L.y rfl (Y.assign rfl) ?_
          refine L.nil ?_
          refine E.thenN ?_
          refine W.ret ?_
          refine E.blockR ?_
          refine E.thenR ?_
          refine E.KLR ?_
          refine E.blockR ?_
          refine E.KSR ?_
          refine E.ret1 rfl rfl (fun w1 hw => ?_)
          obtain rfl := Option.some.inj h
          exact ⟨_, _, rfl, ⟨rfl, rfl⟩, hw⟩
        ·
          refine U.nil ?_
          refine E.thenN ?_
          refine W.condF rfl ?_
          refine W.skip ?_
          refine E.blockN ?_
          refine E.thenN ?_
          refine W.region ?_
          refine L.m (V := fun x5 => .int .i64 x5) h rfl (Y.addM rfl rfl) (fun x5 ex5 h => ?_)
          refine L.y rfl (Y.move rfl) ?_
          refine L.nil ?_
          exact E.againJ ⟨x5, rfl, rfl, by rw [hg1]; exact h⟩ (Nat.lt_succ_self _) ⟨rfl, rfl, rfl, rfl, trivial⟩ (fun _ hw => hw)
      ·
        refine L.nil ?_
        refine E.thenN ?_
        refine W.seq ?_
        refine W.condF rfl ?_
        refine W.exit ?_
        refine E.thenX ?_
        refine E.KLX ?_
        refine E.blockX ?_
        exact E.joinJ ⟨rfl, rfl, h⟩ trivial (fun _ hw => hw)
    ·
      rintro _ _ ⟨rfl, rfl, h⟩
      rw [m49_api_Version_K2] at h
      refine W.seq ?_
      refine W.region ?_
      refine L.y rfl (Y.assign rfl) ?_
      refine L.nil ?_
      refine E.thenN ?_
      refine W.ret ?_
      refine E.ret1 rfl rfl (fun w1 hw => ?_)
      obtain rfl := Option.some.inj h
      exact ⟨_, _, rfl, ⟨rfl, rfl⟩, hw⟩
set_option maxRecDepth 100000 in
set_option maxHeartbeats 8000000 in
theorem w8_quirlaw_VacSays (a0 : (List TVersion)) (a1 : (List Int)) (a2 : Int) (a3 : Int) (u0 : Value) (u1 : Value) (w : World) (r : Bool) (h : m8_quirlaw_VacSays a0 a1 a2 a3 = some r) (hA0 : At w u0 2 (a0.map TVersion.row)) (hA1 : At w u1 1 (a1.map I)) : Does Try.prog 8 [u0, u1, .int .i64 a2, .int .i64 a3] w fun u m => u = .bool r ∧ m = [] := by
  rw [m8_quirlaw_VacSays] at h
  refine body (n := 75) Try.func8 rfl rfl rfl (Cls.refl w) ?_
  refine W.seq ?_
  refine W.region ?_
  refine L.y rfl (Y.assign rfl) ?_
  refine L.nil ?_
  refine E.thenN ?_
  refine W.seq ?_
  refine W.region ?_
  refine L.y rfl (Y.move rfl) ?_
  refine L.y rfl (Y.move rfl) ?_
  refine L.y rfl (Y.move rfl) ?_
  obtain ⟨x1, e2, h⟩ := bind1S h
  refine L.y rfl (Y.does en44 rfl (fun w' hw => (w44_quirref_VacErr a0 a1 a2 u0 u1 w' _ e2 (hA0.cls0 hw) (hA1.cls0 hw)).mono (fun _ _ h => h.1))) ?_
  refine L.y rfl (Y.assign rfl) ?_
  refine L.nil ?_
  refine E.thenN ?_
  refine W.seq ?_
  refine W.region ?_
  refine L.y rfl (Y.move rfl) ?_
  refine L.y rfl (Y.move rfl) ?_
  refine L.y rfl (Y.move rfl) ?_
  obtain ⟨l3, x5, e6, h⟩ := bind2S h
  refine L.does rfl en45 rfl (fun w' hw => w45_vac_Keep a0 a1 a2 u0 u1 w' _ e6 (hA0.cls0 hw) (hA1.cls0 hw)) ?_
  rintro _ _ ⟨v4, rfl, rfl⟩
  refine L.y rfl (Y.move rfl) ?_
  refine L.y rfl (Y.extract rfl rfl) ?_
  refine L.y rfl (Y.extract rfl rfl) ?_
  refine L.y rfl (Y.assign rfl) ?_
  refine L.y rfl (Y.assign rfl) ?_
  refine L.nil ?_
  refine E.thenN ?_
  refine W.seq ?_
  refine W.region ?_
  refine L.y rfl (Y.move rfl) ?_
  refine L.y rfl (Y.move rfl) ?_
  obtain ⟨s7, b8, e9, h⟩ := bind2S h
  refine L.y rfl (Y.does en46 rfl (fun w' hw => (w46_vac_Read a0 a3 u0 w' _ e9 (hA0.cls0 hw)).mono (fun _ _ h => h.1))) ?_
  refine L.y rfl (Y.move rfl) ?_
  refine L.y rfl (Y.extract rfl rfl) ?_
  refine L.y rfl (Y.extract rfl rfl) ?_
  refine L.y rfl (Y.assign rfl) ?_
  refine L.y rfl (Y.assign rfl) ?_
  refine L.nil ?_
  refine E.thenN ?_
  refine W.seq ?_
  refine W.region ?_
  refine L.y rfl (Y.move rfl) ?_
  refine L.y rfl (Y.move rfl) ?_
  obtain ⟨s10, b11, e12, h⟩ := bind2S h
  refine L.y rfl (Y.does en47 rfl (fun w' hw => (w47_quirref_Read a0 a3 u0 w' _ e12 (hA0.cls0 hw)).mono (fun _ _ h => h.1))) ?_
  refine L.y rfl (Y.move rfl) ?_
  refine L.y rfl (Y.extract rfl rfl) ?_
  refine L.y rfl (Y.extract rfl rfl) ?_
  refine L.y rfl (Y.assign rfl) ?_
  refine L.y rfl (Y.assign rfl) ?_
  refine L.nil ?_
  refine E.thenN ?_
  refine W.seqJ (fun gs D => gs = [(0, u0), (1, u1), (2, .int .i64 a2), (9, .int .i64 x1), (10, v4), (11, .int .i64 x5)] ∧ D = Cls w [] [.sl v4 68 2 (l3.map TVersion.row)] ∧ m8_quirlaw_VacSays_K1 x1 l3 x5 a0 a1 a2 = some r) ?_ ?_
  ·
    refine W.seq ?_
    refine W.region ?_
    refine L.cutJ 11 (fun gs D => ∃ (gb1 : Bool), gs = [(0, u0), (1, u1), (2, .int .i64 a2), (9, .int .i64 x1), (10, v4), (11, .int .i64 x5), (13, .bool b8), (15, .bool b11), (49, .bool gb1)] ∧ D = Cls w [] [.sl v4 68 2 (l3.map TVersion.row)] ∧ m8_quirlaw_VacSays_K3 b8 b11 x1 l3 x5 a0 a1 a2 gb1 = some r) ?_ ?_
    ·
      refine L.y rfl (Y.move rfl) ?_
      refine L.y rfl (Y.move rfl) ?_
      refine L.y rfl (Y.move rfl) ?_
      obtain ⟨x21, e22, h⟩ := bind1S h
      refine L.y rfl (Y.does en48 rfl (fun w' hw => (w48_vac_Check a0 a1 a2 u0 u1 w' _ e22 (hA0.cls0 hw) (hA1.cls0 hw)).mono (fun _ _ h => h.1))) ?_
      refine L.y rfl (Y.move rfl) ?_
      refine L.ite h rfl (Y.neq rfl rfl) (fun c23 h => ?_) (fun c23 h => ?_)
      ·
        refine L.y rfl (Y.move rfl) ?_
        refine L.pass rfl rfl (by nofun) ?_
        refine L.pass rfl rfl (by nofun) ?_
        refine L.pass rfl rfl (by nofun) ?_
        refine L.y rfl (Y.pickT rfl rfl) ?_
        refine L.nil ?_
        exact E.joinJ ⟨true, rfl, rfl, h⟩ ⟨rfl, rfl, rfl, rfl, rfl, rfl, rfl, rfl, rfl, trivial⟩ (fun _ hw => hw)
      ·
        refine L.y rfl (Y.move rfl) ?_
        refine L.take rfl ?_
        refine L.y rfl (Y.move rfl) ?_
        refine L.take rfl ?_
        refine L.y rfl (Y.move rfl) ?_
        refine L.take rfl ?_
        refine L.ite h rfl (Y.neqS rfl rfl) (fun c24 h => ?_) (fun c24 h => ?_)
        ·
          refine L.y rfl (Y.pickF rfl rfl) ?_
          refine L.nil ?_
          exact E.joinJ ⟨true, rfl, rfl, h⟩ ⟨rfl, rfl, rfl, rfl, rfl, rfl, rfl, rfl, rfl, trivial⟩ (fun _ hw => hw)
        ·
          refine L.y rfl (Y.pickF rfl rfl) ?_
          refine L.nil ?_
          exact E.joinJ ⟨false, rfl, rfl, h⟩ ⟨rfl, rfl, rfl, rfl, rfl, rfl, rfl, rfl, rfl, trivial⟩ (fun _ hw => hw)
    ·
      rintro _ _ ⟨gb1, rfl, rfl, h⟩
      rw [m8_quirlaw_VacSays_K3] at h
      rcases gb1 with _ | _
      ·
        replace h := iteF h
        refine L.y rfl (Y.move rfl) ?_
        refine L.take rfl ?_
        refine L.y rfl (Y.move rfl) ?_
        refine L.take rfl ?_
        refine L.y rfl (Y.move rfl) ?_
        refine L.take rfl ?_
        refine L.iteB h rfl (Y.neqB Try.underlying4 rfl rfl) (fun c20 h => ?_) (fun c20 h => ?_)
        ·
          refine L.y rfl (Y.pickF rfl rfl) ?_
          refine L.nil ?_
          refine E.thenN ?_
          refine W.condT rfl ?_
          refine W.seq ?_
          refine W.region ?_
          refine L.y rfl (Y.assign rfl) ?_
          refine L.nil ?_
          refine E.thenN ?_
          refine W.ret ?_
          refine E.KSR ?_
          refine E.ret1 rfl rfl (fun w1 hw => ?_)
          obtain rfl := Option.some.inj h
          exact ⟨_, _, rfl, ⟨rfl, rfl⟩, hw.sel [] (by decide) rfl⟩
        ·
          refine L.y rfl (Y.pickF rfl rfl) ?_
          refine L.nil ?_
          refine E.thenN ?_
          refine W.condF rfl ?_
          refine W.skip ?_
          exact E.joinJ ⟨rfl, rfl, h⟩ ⟨rfl, rfl, rfl, rfl, rfl, rfl, trivial⟩ (fun _ hw => hw)
      ·
        replace h := iteT h
        refine L.y rfl (Y.move rfl) ?_
        refine L.pass rfl rfl (by nofun) ?_
        refine L.pass rfl rfl (by nofun) ?_
        refine L.pass rfl rfl (by nofun) ?_
        refine L.y rfl (Y.pickT rfl rfl) ?_
        refine L.nil ?_
        refine E.thenN ?_
        refine W.condT rfl ?_
        refine W.seq ?_
        refine W.region ?_
        refine L.y rfl (Y.assign rfl) ?_
        refine L.nil ?_
        refine E.thenN ?_
        refine W.ret ?_
        refine E.KSR ?_
        refine E.ret1 rfl rfl (fun w1 hw => ?_)
        obtain rfl := Option.some.inj h
        exact ⟨_, _, rfl, ⟨rfl, rfl⟩, hw.sel [] (by decide) rfl⟩
  ·
    rintro _ _ ⟨rfl, rfl, h⟩
    rw [m8_quirlaw_VacSays_K1] at h
    refine W.seqJ (fun gs D => gs = [(0, u0), (1, u1), (2, .int .i64 a2), (10, v4), (11, .int .i64 x5)] ∧ D = Cls w [] [.sl v4 68 2 (l3.map TVersion.row)] ∧ m8_quirlaw_VacSays_K2 a0 a1 a2 l3 x5 = some r) ?_ ?_
    ·
      refine W.seq ?_
      refine W.region ?_
      refine L.y rfl (Y.move rfl) ?_
      refine L.ite h rfl (Y.neq rfl rfl) (fun c18 h => ?_) (fun c18 h => ?_)
      ·
        refine L.nil ?_
        refine E.thenN ?_
        refine W.condT rfl ?_
        refine W.seq ?_
        refine W.region ?_
        refine L.y rfl (Y.move rfl) ?_
        refine L.y rfl (Y.lenM (g := TVersion.row) (l := l3) Try.underlying60 rfl (fun w hw => As.at_ (hw.get (i := 0) rfl))) ?_
        refine L.ite h rfl (Y.eql rfl rfl) (fun c19 h => ?_) (fun c19 h => ?_)
        ·
          refine L.y rfl (Y.move rfl) ?_
          refine L.take rfl ?_
          refine L.y rfl (Y.move rfl) ?_
          refine L.take rfl ?_
          refine L.y rfl (Y.move rfl) ?_
          refine L.take rfl ?_
          refine L.y rfl (Y.eql rfl rfl) ?_
          refine L.y rfl (Y.pickT rfl rfl) ?_
          refine L.y rfl (Y.assign rfl) ?_
          refine L.nil ?_
          refine E.thenN ?_
          refine W.ret ?_
          refine E.KSR ?_
          refine E.ret1 rfl rfl (fun w1 hw => ?_)
          obtain rfl := Option.some.inj h
          exact ⟨_, _, rfl, ⟨rfl, rfl⟩, hw.sel [] (by decide) rfl⟩
        ·
          refine L.y rfl (Y.move rfl) ?_
          refine L.pass rfl rfl (by nofun) ?_
          refine L.pass rfl rfl (by nofun) ?_
          refine L.pass rfl rfl (by nofun) ?_
          refine L.y rfl (Y.pickF rfl rfl) ?_
          refine L.y rfl (Y.assign rfl) ?_
          refine L.nil ?_
          refine E.thenN ?_
          refine W.ret ?_
          refine E.KSR ?_
          refine E.ret1 rfl rfl (fun w1 hw => ?_)
          obtain rfl := Option.some.inj h
          exact ⟨_, _, rfl, ⟨rfl, rfl⟩, hw.sel [] (by decide) rfl⟩
      ·
        refine L.nil ?_
        refine E.thenN ?_
        refine W.condF rfl ?_
        refine W.skip ?_
        exact E.joinJ ⟨rfl, rfl, h⟩ ⟨rfl, rfl, rfl, rfl, rfl, trivial⟩ (fun _ hw => hw)
    ·
      rintro _ _ ⟨rfl, rfl, h⟩
      rw [m8_quirlaw_VacSays_K2] at h
      refine W.seq ?_
      refine W.region ?_
      refine L.y rfl (Y.move rfl) ?_
      refine L.y rfl (Y.move rfl) ?_
      refine L.y rfl (Y.move rfl) ?_
      refine L.y rfl (Y.move rfl) ?_
      obtain ⟨l13, e15, h⟩ := bind1S h
      refine L.does rfl en50 rfl (fun w' hw => w50_quirref_Keep a0 a1 a2 u0 u1 w' _ e15 (hA0.cls0 hw) (hA1.cls0 hw)) ?_
      rintro v14 _ ⟨_, rfl, rfl⟩
      obtain ⟨b16, e17, h⟩ := bind1S h
      refine L.y rfl (Y.does en49 rfl (fun w' hw => (w49_api_Version l3 l13 v4 v14 w' _ e17 (As.at_ (hw.get (i := 1) rfl)) (As.at_ (hw.get (i := 0) rfl))).mono (fun _ _ h => h.1))) ?_
      rcases b16 with _ | _
      ·
        replace h := iteF h
        refine L.y rfl (Y.move rfl) ?_
        refine L.pass rfl rfl (by nofun) ?_
        refine L.pass rfl rfl (by nofun) ?_
        refine L.y rfl (Y.pickF rfl rfl) ?_
        refine L.y rfl (Y.assign rfl) ?_
        refine L.nil ?_
        refine E.thenN ?_
        refine W.ret ?_
        refine E.ret1 rfl rfl (fun w1 hw => ?_)
        obtain rfl := Option.some.inj h
        exact ⟨_, _, rfl, ⟨rfl, rfl⟩, hw.sel [] (by decide) rfl⟩
      ·
        replace h := iteT h
        refine L.y rfl (Y.move rfl) ?_
        refine L.take rfl ?_
        refine L.y rfl (Y.move rfl) ?_
        refine L.take rfl ?_
        refine L.y rfl (Y.eql rfl rfl) ?_
        refine L.y rfl (Y.pickT rfl rfl) ?_
        refine L.y rfl (Y.assign rfl) ?_
        refine L.nil ?_
        refine E.thenN ?_
        refine W.ret ?_
        refine E.ret1 rfl rfl (fun w1 hw => ?_)
        obtain rfl := Option.some.inj h
        exact ⟨_, _, rfl, ⟨rfl, rfl⟩, hw.sel [] (by decide) rfl⟩
end Go.Proofs.Ytfmgjigdebofaaa
