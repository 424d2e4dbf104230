/-
  Walks, printed by a program of mine.
  Conditions: none.
-/
import Derived.Test.YtkhlapdkomnldaaRuM
import Derived.Test.YtkhlapdkomnldaaChecked
import Derived.KernelRfl
import Derived.Test.YtkhlapdkomnldaaSo
namespace Go.Proofs.Ytkhlapdkomnldaa
open Go.S
set_option linter.unusedVariables false
set_option linter.unusedSimpArgs false
theorem mixed : Try.prog.follows .mixedOrders = true := by kernel_rfl
theorem ag3 : aggB Try.prog 3 false = true := by kernel_rfl
theorem ag4 : aggB Try.prog 4 false = true := by kernel_rfl
theorem ag22 : aggB Try.prog 22 false = true := by kernel_rfl
theorem ag28 : aggB Try.prog 28 false = true := by kernel_rfl
theorem ag32 : aggB Try.prog 32 true = true := by kernel_rfl
theorem ag40 : aggB Try.prog 40 true = true := by kernel_rfl
theorem ag83 : aggB Try.prog 83 true = true := by kernel_rfl
theorem ag85 : aggB Try.prog 85 true = true := by kernel_rfl
theorem ag164 : aggB Try.prog 164 false = true := by kernel_rfl
theorem el3 : elemB Try.prog 3 1 8 = true := by kernel_rfl
theorem el4 : elemB Try.prog 4 1 1 = true := by kernel_rfl
theorem el28 : elemB Try.prog 28 1 24 = true := by kernel_rfl
theorem el40 : elemB Try.prog 40 2 16 = true := by kernel_rfl
theorem el164 : elemB Try.prog 164 1 24 = true := by kernel_rfl
theorem en8 : entB Try.prog 8 = true := by kernel_rfl
theorem en9 : entB Try.prog 9 = true := by kernel_rfl
theorem en10 : entB Try.prog 10 = true := by kernel_rfl
theorem en11 : entB Try.prog 11 = true := by kernel_rfl
theorem en12 : entB Try.prog 12 = true := by kernel_rfl
theorem en13 : entB Try.prog 13 = true := by kernel_rfl
theorem en14 : entB Try.prog 14 = true := by kernel_rfl
theorem en15 : entB Try.prog 15 = true := by kernel_rfl
theorem en16 : entB Try.prog 16 = true := by kernel_rfl
theorem en17 : entB Try.prog 17 = true := by kernel_rfl
theorem en40 : entB Try.prog 40 = true := by kernel_rfl
theorem en41 : entB Try.prog 41 = true := by kernel_rfl
theorem en42 : entB Try.prog 42 = true := by kernel_rfl
theorem en43 : entB Try.prog 43 = true := by kernel_rfl
theorem en44 : entB Try.prog 44 = true := by kernel_rfl
theorem en45 : entB Try.prog 45 = true := by kernel_rfl
theorem en46 : entB Try.prog 46 = true := by kernel_rfl
theorem en47 : entB Try.prog 47 = true := by kernel_rfl
theorem en48 : entB Try.prog 48 = true := by kernel_rfl
theorem en49 : entB Try.prog 49 = true := by kernel_rfl
theorem en50 : entB Try.prog 50 = true := by kernel_rfl
theorem en51 : entB Try.prog 51 = true := by kernel_rfl
theorem en56 : entB Try.prog 56 = true := by kernel_rfl
theorem en109 : entB Try.prog 109 = true := by kernel_rfl
theorem en110 : entB Try.prog 110 = true := by kernel_rfl
theorem en111 : entB Try.prog 111 = true := by kernel_rfl
theorem en112 : entB Try.prog 112 = true := by kernel_rfl
theorem en113 : entB Try.prog 113 = true := by kernel_rfl
theorem en130 : entB Try.prog 130 = true := by kernel_rfl
theorem en131 : entB Try.prog 131 = true := by kernel_rfl
theorem en132 : entB Try.prog 132 = true := by kernel_rfl
theorem fd32_0 : fieldB Try.prog 32 0 0 = true := by kernel_rfl
theorem fd32_1 : fieldB Try.prog 32 1 1 = true := by kernel_rfl
theorem fd32_2 : fieldB Try.prog 32 2 2 = true := by kernel_rfl
theorem fd40_0 : fieldB Try.prog 40 0 0 = true := by kernel_rfl
theorem fd40_1 : fieldB Try.prog 40 1 1 = true := by kernel_rfl
theorem fd83_0 : fieldB Try.prog 83 0 0 = true := by kernel_rfl
theorem fd83_1 : fieldB Try.prog 83 1 1 = true := by kernel_rfl
theorem fd83_2 : fieldB Try.prog 83 2 2 = true := by kernel_rfl
theorem sz3 : szB Try.prog 3 1 = true := by kernel_rfl
theorem sz4 : szB Try.prog 4 1 = true := by kernel_rfl
theorem sz28 : szB Try.prog 28 1 = true := by kernel_rfl
theorem sz32 : szB Try.prog 32 3 = true := by kernel_rfl
theorem sz40 : szB Try.prog 40 2 = true := by kernel_rfl
theorem sz83 : szB Try.prog 83 3 = true := by kernel_rfl
theorem sz85 : szB Try.prog 85 12 = true := by kernel_rfl
theorem sz92 : szB Try.prog 92 12 = true := by kernel_rfl
theorem sz164 : szB Try.prog 164 1 = true := by kernel_rfl
theorem ze3 : zeroB Try.prog 3 = some [.int .i64 0] := by kernel_rfl
theorem ze4 : zeroB Try.prog 4 = some [.bool false] := by kernel_rfl
theorem ze28 : zeroB Try.prog 28 = some [.slice none 0 0] := by kernel_rfl
theorem ze32 : zeroB Try.prog 32 = some [.bool false, .bool false, .bool false] := by kernel_rfl
theorem ze40 : zeroB Try.prog 40 = some [.int .i64 0, .int .i64 0] := by kernel_rfl
theorem ze83 : zeroB Try.prog 83 = some [.int .i64 0, .int .i64 0, .int .i64 0] := by kernel_rfl
theorem ze85 : zeroB Try.prog 85 = some (List.replicate 12 (.bool false)) := by kernel_rfl
theorem ze87 : zeroB Try.prog 87 = some [.bool false, .bool false, .bool false, .bool false, .bool false, .bool false, .bool false, .bool false, .bool false, .bool false, .bool false, .bool false, .bool false, .bool false, .bool false, .bool false, .bool false, .bool false, .bool false, .bool false, .bool false, .bool false, .bool false, .bool false, .bool false, .bool false, .bool false, .bool false, .bool false, .bool false, .bool false, .bool false, .bool false, .bool false, .bool false, .bool false, .bool false, .bool false, .bool false, .bool false, .bool false, .bool false, .bool false, .bool false, .bool false, .bool false, .bool false, .bool false, .bool false, .bool false, .bool false, .bool false, .bool false, .bool false, .bool false, .bool false, .bool false, .bool false, .bool false, .bool false, .bool false, .bool false, .bool false, .bool false, .bool false, .bool false, .bool false, .bool false, .bool false, .bool false, .bool false, .bool false, .bool false, .bool false, .bool false, .bool false, .bool false, .bool false, .bool false, .bool false, .bool false, .bool false, .bool false, .bool false, .bool false, .bool false, .bool false, .bool false, .bool false, .bool false, .bool false, .bool false, .bool false, .bool false, .bool false, .bool false, .bool false, .bool false, .bool false, .bool false, .bool false, .bool false, .bool false, .bool false, .bool false, .bool false, .bool false, .bool false, .bool false, .bool false, .bool false, .bool false, .bool false, .bool false, .bool false, .bool false, .bool false, .bool false, .bool false, .bool false, .bool false, .bool false, .bool false, .bool false, .bool false, .bool false, .bool false, .bool false, .bool false, .bool false, .bool false, .bool false, .bool false, .bool false, .bool false, .bool false, .bool false, .bool false, .bool false, .bool false, .bool false, .bool false, .bool false, .bool false] := by kernel_rfl
theorem ze92 : zeroB Try.prog 92 = some (List.replicate 12 (.int .i64 0)) := by kernel_rfl
theorem ze93 : zeroB Try.prog 93 = some (List.replicate 20 (.slice none 0 0)) := by kernel_rfl
theorem ze94 : zeroB Try.prog 94 = some (List.replicate 12 (.slice none 0 0)) := by kernel_rfl
theorem ze164 : zeroB Try.prog 164 = some [.slice none 0 0] := by kernel_rfl
theorem plain_TOp (l : List TOp) : Plain (l.map TOp.row) := by
  intro r hr u hu
  obtain ⟨x, _, rfl⟩ := List.mem_map.1 hr
  simp only [TOp.row, List.mem_cons, List.not_mem_nil, or_false] at hu
  rcases hu with rfl | rfl | rfl <;> rfl
theorem plain_TEdge (l : List TEdge) : Plain (l.map TEdge.row) := by
  intro r hr u hu
  obtain ⟨x, _, rfl⟩ := List.mem_map.1 hr
  simp only [TEdge.row, List.mem_cons, List.not_mem_nil, or_false] at hu
  rcases hu with rfl | rfl <;> rfl
theorem plain_TRunKind (l : List TRunKind) : Plain (l.map TRunKind.row) := by
  intro r hr u hu
  obtain ⟨x, _, rfl⟩ := List.mem_map.1 hr
  simp only [TRunKind.row, List.mem_cons, List.not_mem_nil, or_false] at hu
  rcases hu with rfl | rfl | rfl <;> rfl
theorem eg32 : Try.prog.eqGuardType Try.prog.depth 32 = false := by kernel_rfl
theorem sh32 (x : TRunKind) : shB Try.prog 5 32 x.row = true := by kernel_rfl
theorem inj32 (x y : TRunKind) (h : x.row = y.row) : x = y := by
  cases x; cases y
  simpa [TRunKind.row, st_inj] using h
theorem eg40 : Try.prog.eqGuardType Try.prog.depth 40 = false := by kernel_rfl
theorem sh40 (x : TEdge) : shB Try.prog 5 40 x.row = true := by kernel_rfl
theorem inj40 (x y : TEdge) (h : x.row = y.row) : x = y := by
  cases x; cases y
  simpa [TEdge.row, st_inj] using h
theorem eg83 : Try.prog.eqGuardType Try.prog.depth 83 = false := by kernel_rfl
theorem sh83 (x : TOp) : shB Try.prog 5 83 x.row = true := by kernel_rfl
theorem inj83 (x y : TOp) (h : x.row = y.row) : x = y := by
  cases x; cases y
  simpa [TOp.row, st_inj] using h
set_option maxRecDepth 100000 in
set_option maxHeartbeats 8000000 in
theorem w8_quirref_RunErr (a0 : (List TOp)) (u0 : Value) (w : World) (r : Int) (h : m8_quirref_RunErr a0 = some r) (hA0 : At w u0 3 (a0.map TOp.row)) : Does Try.prog 8 [u0] w fun u m => u = .int .i64 r ∧ m = [] := by
  rw [m8_quirref_RunErr] at h
  refine body (n := 73) Try.func8 rfl rfl rfl (Cls.refl w) ?_
  refine W.seq (W.region (L.y rfl (Y.assign rfl) ?_))
  refine L.nil (E.thenN (W.seqJ (fun gs D => gs = [(0, u0)] ∧ D = Cls w [] [] ∧ m8_quirref_RunErr_K1 a0 = some r) ?_ ?_))
  ·
   refine W.seq (W.region (L.y rfl (Y.move rfl) ?_))
   refine L.y rfl (Y.lenM (g := TOp.row) (l := a0) Try.underlying22 rfl (fun w' hw => hA0.cls0 hw)) ?_
   refine L.ite h rfl (Y.gtr rfl rfl) (fun c21 h => ?_) (fun c21 h => ?_)
   ·
    refine L.nil (E.thenN (W.condT rfl ?_))
    refine W.seq (W.region (L.y rfl (Y.assign rfl) ?_))
    refine L.nil (E.thenN (W.ret (E.KSR (E.ret1 rfl rfl (fun w1 hw => ?_)))))
    obtain rfl := Option.some.inj h
    exact ⟨_, _, rfl, ⟨rfl, rfl⟩, hw⟩
   ·
    refine L.nil (E.thenN (W.condF rfl ?_))
    exact W.skip (E.joinJ ⟨rfl, rfl, h⟩ ⟨rfl, trivial⟩ (fun _ hw => hw))
  ·
   rintro _ _ ⟨rfl, rfl, h⟩
   rw [m8_quirref_RunErr_K1] at h
   refine W.seqJ (fun gs D => gs = [] ∧ D = Cls w [] [] ∧ m8_quirref_RunErr_K2 = some r) ?_ ?_
   ·
    refine W.seq (W.region (L.y rfl (Y.move rfl) ?_))
    refine L.y rfl (Y.lenM (g := TOp.row) (l := a0) Try.underlying22 rfl (fun w' hw => hA0.cls0 hw)) ?_
    refine L.y rfl (Y.move rfl) ?_
    refine L.nil (E.thenN (W.block (W.loopJ (fun m gs D => ∃ (gx1 : Int), gs = [(0, u0), (10, u0), (11, .int .i64 (a0.length : Int)), (12, .int .i64 gx1)] ∧ D = Cls w [] [] ∧ m8_quirref_RunErr_L1 a0 m gx1 = some r) ⟨0, rfl, rfl, h⟩ ⟨rfl, rfl, rfl, rfl, trivial⟩ (fun _ hw => hw) ?_)))
    rintro m _ _ ⟨gx1, rfl, rfl, h⟩
    rcases m with _ | m
    · rw [m8_quirref_RunErr_L1] at h; cases h
    rw [m8_quirref_RunErr_L1] at h
    generalize hg1 : m8_quirref_RunErr_L1 a0 m = go1 at h
    rw [m8_quirref_RunErr_L1B] at h
    refine W.seq (W.region (L.ite h rfl (Y.lss rfl rfl) (fun c1 h => ?_) (fun c1 h => ?_)))
    ·
     refine L.nil (E.thenN (W.seq (W.condT rfl ?_)))
     refine W.skip (E.thenN (W.seqJ (fun gs D => gs = [(0, u0), (10, u0), (11, .int .i64 (a0.length : Int)), (12, .int .i64 gx1)] ∧ D = Cls w [] [] ∧ m8_quirref_RunErr_K3 gx1 go1 = some r) ?_ ?_))
     ·
      refine W.block (W.seq (W.region (L.y rfl (Y.move rfl) ?_)))
      refine L.m (V := fun _ => el u0 (gx1.toNat * 3)) h rfl (Y.indexM (g := TOp.row) (l := a0) Try.underlying22 sz83 rfl rfl (fun w' hw => hA0.cls0 hw)) (fun x3 ex3 h => ?_)
      refine L.y rfl (Y.loadEN (r := [.int .i64 x3.Tx, .int .i64 x3.Kind, .int .i64 x3.Item]) ag83 sz83 rfl (fun w' hw => hA0.cls0 hw) (idx_map ex3) rfl) ?_
      refine L.alloc rfl ze83 ?_
      intro b4
      refine L.y rfl (Y.assign rfl) ?_
      refine L.store (i := 0) sz83 rfl rfl rfl rfl (by simp [Value.oneCell', Value.cells, st]) rfl (Nat.le_of_ble_eq_true rfl) ?_
      refine L.nil (E.thenN (W.seqJ (fun gs D => gs = [(0, u0), (3, .int .i64 gx1), (4, pt b4 0), (10, u0), (11, .int .i64 (a0.length : Int)), (12, .int .i64 gx1)] ∧ D = Cls w [] [.obj b4 [.int .i64 x3.Tx, .int .i64 x3.Kind, .int .i64 x3.Item] 83] ∧ m8_quirref_RunErr_K4 x3 a0 gx1 go1 = some r) ?_ ?_))
      ·
       refine W.seq (W.region (L.cutJ 8 (fun gs D => ∃ (gb5 : Bool), gs = [(0, u0), (3, .int .i64 gx1), (4, pt b4 0), (10, u0), (11, .int .i64 (a0.length : Int)), (12, .int .i64 gx1), (24, .bool gb5)] ∧ D = Cls w [] [.obj b4 [.int .i64 x3.Tx, .int .i64 x3.Kind, .int .i64 x3.Item] 83] ∧ m8_quirref_RunErr_K8 x3 a0 gx1 go1 gb5 = some r) ?_ ?_))
       ·
        refine L.y rfl (Y.fieldP fd83_0 rfl) ?_
        refine L.y rfl (Y.loadP (i := 0) ag3 rfl rfl rfl) ?_
        refine L.ite h rfl (Y.lss rfl rfl) (fun c19 h => ?_) (fun c19 h => ?_)
        ·
         refine L.y rfl (Y.move rfl) ?_
         refine L.pass rfl rfl (by nofun) ?_
         refine L.pass rfl rfl (by nofun) ?_
         refine L.pass rfl rfl (by nofun) ?_
         refine L.y rfl (Y.pickT rfl rfl) ?_
         exact L.nil (E.joinJ ⟨true, rfl, rfl, h⟩ ⟨rfl, rfl, rfl, rfl, rfl, rfl, rfl, trivial⟩ (fun _ hw => hw))
        ·
         refine L.y rfl (Y.move rfl) ?_
         refine L.take rfl (L.y rfl (Y.fieldP fd83_0 rfl) ?_)
         refine L.take rfl (L.y rfl (Y.loadP (i := 0) ag3 rfl rfl rfl) ?_)
         refine L.take rfl (L.ite h rfl (Y.gtr rfl rfl) (fun c20 h => ?_) (fun c20 h => ?_))
         ·
          refine L.y rfl (Y.pickF rfl rfl) ?_
          exact L.nil (E.joinJ ⟨true, rfl, rfl, h⟩ ⟨rfl, rfl, rfl, rfl, rfl, rfl, rfl, trivial⟩ (fun _ hw => hw))
         ·
          refine L.y rfl (Y.pickF rfl rfl) ?_
          exact L.nil (E.joinJ ⟨false, rfl, rfl, h⟩ ⟨rfl, rfl, rfl, rfl, rfl, rfl, rfl, trivial⟩ (fun _ hw => hw))
       ·
        rintro _ _ ⟨gb5, rfl, rfl, h⟩
        rw [m8_quirref_RunErr_K8] at h
        rcases gb5 with _ | _
        ·
         replace h := iteF h
         refine L.y rfl (Y.move rfl) ?_
         refine L.take rfl (L.y rfl (Y.fieldP fd83_2 rfl) ?_)
         refine L.take rfl (L.y rfl (Y.loadP (i := 0) ag3 rfl rfl rfl) ?_)
         refine L.take rfl (L.ite h rfl (Y.lss rfl rfl) (fun c17 h => ?_) (fun c17 h => ?_))
         ·
          refine L.y rfl (Y.pickF rfl rfl) ?_
          refine L.y rfl (Y.move rfl) ?_
          refine L.pass rfl rfl (by nofun) ?_
          refine L.pass rfl rfl (by nofun) ?_
          refine L.pass rfl rfl (by nofun) ?_
          refine L.y rfl (Y.pickT rfl rfl) ?_
          refine L.nil (E.thenN (W.condT rfl ?_))
          refine W.seq (W.region (L.y rfl (Y.assign rfl) ?_))
          refine L.nil (E.thenN (W.ret (E.KSR (E.blockR (E.KSR (E.KLR (E.blockR (E.KSR (E.ret1 rfl rfl (fun w1 hw => ?_))))))))))
          obtain rfl := Option.some.inj h
          exact ⟨_, _, rfl, ⟨rfl, rfl⟩, hw.sel [] (by decide) rfl⟩
         ·
          refine L.y rfl (Y.pickF rfl rfl) ?_
          refine L.y rfl (Y.move rfl) ?_
          refine L.take rfl (L.y rfl (Y.fieldP fd83_2 rfl) ?_)
          refine L.take rfl (L.y rfl (Y.loadP (i := 0) ag3 rfl rfl rfl) ?_)
          refine L.take rfl (L.ite h rfl (Y.gtr rfl rfl) (fun c18 h => ?_) (fun c18 h => ?_))
          ·
           refine L.y rfl (Y.pickF rfl rfl) ?_
           refine L.nil (E.thenN (W.condT rfl ?_))
           refine W.seq (W.region (L.y rfl (Y.assign rfl) ?_))
           refine L.nil (E.thenN (W.ret (E.KSR (E.blockR (E.KSR (E.KLR (E.blockR (E.KSR (E.ret1 rfl rfl (fun w1 hw => ?_))))))))))
           obtain rfl := Option.some.inj h
           exact ⟨_, _, rfl, ⟨rfl, rfl⟩, hw.sel [] (by decide) rfl⟩
          ·
           refine L.y rfl (Y.pickF rfl rfl) ?_
           refine L.nil (E.thenN (W.condF rfl ?_))
           exact W.skip (E.joinJ ⟨rfl, rfl, h⟩ ⟨rfl, rfl, rfl, rfl, rfl, rfl, trivial⟩ (fun _ hw => hw))
        ·
         replace h := iteT h
         refine L.y rfl (Y.move rfl) ?_
         refine L.pass rfl rfl (by nofun) ?_
         refine L.pass rfl rfl (by nofun) ?_
         refine L.pass rfl rfl (by nofun) ?_
         refine L.y rfl (Y.pickT rfl rfl) ?_
         refine L.y rfl (Y.move rfl) ?_
         refine L.pass rfl rfl (by nofun) ?_
         refine L.pass rfl rfl (by nofun) ?_
         refine L.pass rfl rfl (by nofun) ?_
         refine L.y rfl (Y.pickT rfl rfl) ?_
         refine L.nil (E.thenN (W.condT rfl ?_))
         refine W.seq (W.region (L.y rfl (Y.assign rfl) ?_))
         refine L.nil (E.thenN (W.ret (E.KSR (E.blockR (E.KSR (E.KLR (E.blockR (E.KSR (E.ret1 rfl rfl (fun w1 hw => ?_))))))))))
         obtain rfl := Option.some.inj h
         exact ⟨_, _, rfl, ⟨rfl, rfl⟩, hw.sel [] (by decide) rfl⟩
      ·
       rintro _ _ ⟨rfl, rfl, h⟩
       rw [m8_quirref_RunErr_K4] at h
       refine W.seqJ (fun gs D => gs = [(0, u0), (3, .int .i64 gx1), (4, pt b4 0), (10, u0), (11, .int .i64 (a0.length : Int)), (12, .int .i64 gx1)] ∧ D = Cls w [] [.obj b4 [.int .i64 x3.Tx, .int .i64 x3.Kind, .int .i64 x3.Item] 83] ∧ m8_quirref_RunErr_K5 a0 gx1 x3 go1 = some r) ?_ ?_
       ·
        refine W.seq (W.region (L.cutJ 8 (fun gs D => ∃ (gb3 : Bool), gs = [(0, u0), (3, .int .i64 gx1), (4, pt b4 0), (10, u0), (11, .int .i64 (a0.length : Int)), (12, .int .i64 gx1), (42, .bool gb3)] ∧ D = Cls w [] [.obj b4 [.int .i64 x3.Tx, .int .i64 x3.Kind, .int .i64 x3.Item] 83] ∧ m8_quirref_RunErr_K6 x3 a0 gx1 go1 gb3 = some r) ?_ ?_))
        ·
         refine L.y rfl (Y.fieldP fd83_1 rfl) ?_
         refine L.y rfl (Y.loadP (i := 0) ag3 rfl rfl rfl) ?_
         refine L.ite h rfl (Y.lss rfl rfl) (fun c15 h => ?_) (fun c15 h => ?_)
         ·
          refine L.y rfl (Y.move rfl) ?_
          refine L.pass rfl rfl (by nofun) ?_
          refine L.pass rfl rfl (by nofun) ?_
          refine L.pass rfl rfl (by nofun) ?_
          refine L.y rfl (Y.pickT rfl rfl) ?_
          exact L.nil (E.joinJ ⟨true, rfl, rfl, h⟩ ⟨rfl, rfl, rfl, rfl, rfl, rfl, rfl, trivial⟩ (fun _ hw => hw))
         ·
          refine L.y rfl (Y.move rfl) ?_
          refine L.take rfl (L.y rfl (Y.fieldP fd83_1 rfl) ?_)
          refine L.take rfl (L.y rfl (Y.loadP (i := 0) ag3 rfl rfl rfl) ?_)
          refine L.take rfl (L.ite h rfl (Y.gtr rfl rfl) (fun c16 h => ?_) (fun c16 h => ?_))
          ·
           refine L.y rfl (Y.pickF rfl rfl) ?_
           exact L.nil (E.joinJ ⟨true, rfl, rfl, h⟩ ⟨rfl, rfl, rfl, rfl, rfl, rfl, rfl, trivial⟩ (fun _ hw => hw))
          ·
           refine L.y rfl (Y.pickF rfl rfl) ?_
           exact L.nil (E.joinJ ⟨false, rfl, rfl, h⟩ ⟨rfl, rfl, rfl, rfl, rfl, rfl, rfl, trivial⟩ (fun _ hw => hw))
        ·
         rintro _ _ ⟨gb3, rfl, rfl, h⟩
         rw [m8_quirref_RunErr_K6] at h
         rcases gb3 with _ | _
         ·
          replace h := iteF h
          refine L.cutJ 9 (fun gs D => ∃ (gb4 : Bool), gs = [(0, u0), (3, .int .i64 gx1), (4, pt b4 0), (10, u0), (11, .int .i64 (a0.length : Int)), (12, .int .i64 gx1), (43, .bool false), (51, .bool gb4)] ∧ D = Cls w [] [.obj b4 [.int .i64 x3.Tx, .int .i64 x3.Kind, .int .i64 x3.Item] 83] ∧ m8_quirref_RunErr_K7 a0 gx1 x3 go1 gb4 = some r) ?_ ?_
          ·
           refine L.y rfl (Y.move rfl) ?_
           refine L.take rfl (L.y rfl (Y.fieldP fd83_1 rfl) ?_)
           refine L.take rfl (L.y rfl (Y.loadP (i := 0) ag3 rfl rfl rfl) ?_)
           refine L.take rfl (L.ite h rfl (Y.gtr rfl rfl) (fun c13 h => ?_) (fun c13 h => ?_))
           ·
            refine L.take rfl (L.y rfl (Y.move rfl) ?_)
            refine L.take rfl (L.y rfl (Y.fieldP fd83_2 rfl) ?_)
            refine L.take rfl (L.y rfl (Y.loadP (i := 0) ag3 rfl rfl rfl) ?_)
            refine L.take rfl (L.ite h rfl (Y.neq rfl rfl) (fun c14 h => ?_) (fun c14 h => ?_))
            ·
             refine L.take rfl (L.y rfl (Y.pickT rfl rfl) ?_)
             exact L.nil (E.joinJ ⟨true, rfl, rfl, h⟩ ⟨rfl, rfl, rfl, rfl, rfl, rfl, rfl, rfl, trivial⟩ (fun _ hw => hw))
            ·
             refine L.take rfl (L.y rfl (Y.pickT rfl rfl) ?_)
             exact L.nil (E.joinJ ⟨false, rfl, rfl, h⟩ ⟨rfl, rfl, rfl, rfl, rfl, rfl, rfl, rfl, trivial⟩ (fun _ hw => hw))
           ·
            refine L.take rfl (L.y rfl (Y.move rfl) ?_)
            refine L.pass rfl rfl (by nofun) ?_
            refine L.pass rfl rfl (by nofun) ?_
            refine L.pass rfl rfl (by nofun) ?_
            refine L.take rfl (L.y rfl (Y.pickF rfl rfl) ?_)
            exact L.nil (E.joinJ ⟨false, rfl, rfl, h⟩ ⟨rfl, rfl, rfl, rfl, rfl, rfl, rfl, rfl, trivial⟩ (fun _ hw => hw))
          ·
           rintro _ _ ⟨gb4, rfl, rfl, h⟩
           rw [m8_quirref_RunErr_K7] at h
           rcases gb4 with _ | _
           ·
            replace h := iteF h
            refine L.y rfl (Y.pickF rfl rfl) ?_
            refine L.nil (E.thenN (W.condF rfl ?_))
            exact W.skip (E.joinJ ⟨rfl, rfl, h⟩ ⟨rfl, rfl, rfl, rfl, rfl, rfl, trivial⟩ (fun _ hw => hw))
           ·
            replace h := iteT h
            refine L.y rfl (Y.pickF rfl rfl) ?_
            refine L.nil (E.thenN (W.condT rfl ?_))
            refine W.seq (W.region (L.y rfl (Y.assign rfl) ?_))
            refine L.nil (E.thenN (W.ret (E.KSR (E.blockR (E.KSR (E.KLR (E.blockR (E.KSR (E.ret1 rfl rfl (fun w1 hw => ?_))))))))))
            obtain rfl := Option.some.inj h
            exact ⟨_, _, rfl, ⟨rfl, rfl⟩, hw.sel [] (by decide) rfl⟩
         ·
          replace h := iteT h
          refine L.y rfl (Y.move rfl) ?_
          refine L.pass rfl rfl (by nofun) ?_
          refine L.pass rfl rfl (by nofun) ?_
          refine L.pass rfl rfl (by nofun) ?_
          refine L.pass rfl rfl (by nofun) ?_
          refine L.pass rfl rfl (by nofun) ?_
          refine L.pass rfl rfl (by nofun) ?_
          refine L.pass rfl rfl (by nofun) ?_
          refine L.pass rfl rfl (by nofun) ?_
          refine L.y rfl (Y.pickT rfl rfl) ?_
          refine L.nil (E.thenN (W.condT rfl ?_))
          refine W.seq (W.region (L.y rfl (Y.assign rfl) ?_))
          refine L.nil (E.thenN (W.ret (E.KSR (E.blockR (E.KSR (E.KLR (E.blockR (E.KSR (E.ret1 rfl rfl (fun w1 hw => ?_))))))))))
          obtain rfl := Option.some.inj h
          exact ⟨_, _, rfl, ⟨rfl, rfl⟩, hw.sel [] (by decide) rfl⟩
       ·
        rintro _ _ ⟨rfl, rfl, h⟩
        rw [m8_quirref_RunErr_K5] at h
        refine W.seq (W.region (L.y rfl (Y.move rfl) ?_))
        refine L.y rfl (Y.move rfl) ?_
        refine L.m (V := fun _ => cutv u0 gx1.toNat) h rfl (Y.cutM (g := TOp.row) Try.underlying22 sz83 rfl rfl (fun w' hw => hA0.cls0 hw)) (fun l5 el5 h => ?_)
        refine L.y rfl (Y.lenM (g := TOp.row) (l := l5) Try.underlying22 rfl (fun w' hw => (At.cutM hA0 el5).cls0 hw)) ?_
        refine L.y rfl (Y.move rfl) ?_
        refine L.nil (E.thenN (W.block (W.loopJ (fun m gs D => ∃ (gx2 : Int), gs = [(0, u0), (4, pt b4 0), (10, u0), (11, .int .i64 (a0.length : Int)), (12, .int .i64 gx1), (55, cutv u0 gx1.toNat), (56, .int .i64 (l5.length : Int)), (57, .int .i64 gx2)] ∧ D = Cls w [] [.obj b4 [.int .i64 x3.Tx, .int .i64 x3.Kind, .int .i64 x3.Item] 83] ∧ m8_quirref_RunErr_L2 l5 x3 gx1 go1 m gx2 = some r) ⟨0, rfl, rfl, h⟩ ⟨rfl, rfl, rfl, rfl, rfl, rfl, rfl, rfl, trivial⟩ (fun _ hw => hw) ?_)))
        rintro m _ _ ⟨gx2, rfl, rfl, h⟩
        rcases m with _ | m
        · rw [m8_quirref_RunErr_L2] at h; cases h
        rw [m8_quirref_RunErr_L2] at h
        generalize hg2 : m8_quirref_RunErr_L2 l5 x3 gx1 go1 m = go2 at h
        rw [m8_quirref_RunErr_L2B] at h
        refine W.seq (W.region (L.ite h rfl (Y.lss rfl rfl) (fun c6 h => ?_) (fun c6 h => ?_)))
        ·
         refine L.nil (E.thenN (W.seq (W.condT rfl ?_)))
         refine W.skip (E.thenN (W.seq (W.block (W.seq (W.region (L.m (V := fun _ => el (cutv u0 gx1.toNat) (gx2.toNat * 3)) h rfl (Y.indexM (g := TOp.row) (l := l5) Try.underlying22 sz83 rfl rfl (fun w' hw => (At.cutM hA0 el5).cls0 hw)) (fun x7 ex7 h => ?_)))))))
         refine L.y rfl (Y.loadEN (r := [.int .i64 x7.Tx, .int .i64 x7.Kind, .int .i64 x7.Item]) ag83 sz83 rfl (fun w' hw => (At.cutM hA0 el5).cls0 hw) (idx_map ex7) rfl) ?_
         refine L.alloc rfl ze83 ?_
         intro b8
         refine L.store (i := 0) sz83 rfl rfl rfl rfl (by simp [Value.oneCell', Value.cells, st]) rfl (Nat.le_of_ble_eq_true rfl) ?_
         refine L.nil (E.thenN (W.seq (W.region (L.y rfl (Y.fieldP fd83_0 rfl) ?_))))
         refine L.y rfl (Y.loadP (i := 0) ag3 rfl rfl rfl) ?_
         refine L.y rfl (Y.fieldP fd83_0 rfl) ?_
         refine L.y rfl (Y.loadP (i := 1) ag3 rfl rfl rfl) ?_
         refine L.ite h rfl (Y.eql rfl rfl) (fun c9 h => ?_) (fun c9 h => ?_)
         ·
          refine L.y rfl (Y.move rfl) ?_
          refine L.take rfl (L.y rfl (Y.fieldP fd83_1 rfl) ?_)
          refine L.take rfl (L.y rfl (Y.loadP (i := 0) ag3 rfl rfl rfl) ?_)
          refine L.take rfl (L.ite h rfl (Y.gtr rfl rfl) (fun c10 h => ?_) (fun c10 h => ?_))
          ·
           refine L.y rfl (Y.pickT rfl rfl) ?_
           refine L.nil (E.thenN (W.condT rfl ?_))
           refine W.seq (W.region (L.y rfl (Y.assign rfl) ?_))
           refine L.nil (E.thenN (W.ret (E.blockR (E.thenR (E.KLR (E.blockR (E.blockR (E.KSR (E.KLR (E.blockR (E.KSR (E.ret1 rfl rfl (fun w1 hw => ?_)))))))))))))
           obtain rfl := Option.some.inj h
           exact ⟨_, _, rfl, ⟨rfl, rfl⟩, hw.sel [] (by decide) rfl⟩
          ·
           refine L.y rfl (Y.pickT rfl rfl) ?_
           refine L.nil (E.thenN (W.condF rfl ?_))
           refine W.skip (E.blockN (E.thenN (W.region (L.m (V := fun x11 => .int .i64 x11) h rfl (Y.addM rfl rfl) (fun x11 ex11 h => ?_)))))
           refine L.y rfl (Y.move rfl) ?_
           exact L.nil (E.againJ ⟨x11, rfl, rfl, by rw [hg2]; exact h⟩ (Nat.lt_succ_self _) ⟨rfl, rfl, rfl, rfl, rfl, rfl, rfl, rfl, trivial⟩ (fun _ hw => hw.sel [1] (by decide) rfl))
         ·
          refine L.y rfl (Y.move rfl) ?_
          refine L.pass rfl rfl (by nofun) ?_
          refine L.pass rfl rfl (by nofun) ?_
          refine L.pass rfl rfl (by nofun) ?_
          refine L.y rfl (Y.pickF rfl rfl) ?_
          refine L.nil (E.thenN (W.condF rfl ?_))
          refine W.skip (E.blockN (E.thenN (W.region (L.m (V := fun x12 => .int .i64 x12) h rfl (Y.addM rfl rfl) (fun x12 ex12 h => ?_)))))
          refine L.y rfl (Y.move rfl) ?_
          exact L.nil (E.againJ ⟨x12, rfl, rfl, by rw [hg2]; exact h⟩ (Nat.lt_succ_self _) ⟨rfl, rfl, rfl, rfl, rfl, rfl, rfl, rfl, trivial⟩ (fun _ hw => hw.sel [1] (by decide) rfl))
        ·
         refine L.nil (E.thenN (W.seq (W.condF rfl ?_)))
         exact W.exit (E.thenX (E.KLX (E.blockX (E.blockN (E.joinJ ⟨rfl, rfl, h⟩ ⟨rfl, rfl, rfl, rfl, trivial⟩ (fun _ hw => hw.sel [] (by decide) rfl))))))
     ·
      rintro _ _ ⟨rfl, rfl, h⟩
      rw [m8_quirref_RunErr_K3] at h
      refine W.region (L.m (V := fun x2 => .int .i64 x2) h rfl (Y.addM rfl rfl) (fun x2 ex2 h => ?_))
      refine L.y rfl (Y.move rfl) ?_
      exact L.nil (E.againJ ⟨x2, rfl, rfl, by rw [hg1]; exact h⟩ (Nat.lt_succ_self _) ⟨rfl, rfl, rfl, rfl, trivial⟩ (fun _ hw => hw))
    ·
     refine L.nil (E.thenN (W.seq (W.condF rfl ?_)))
     exact W.exit (E.thenX (E.KLX (E.blockX (E.joinJ ⟨rfl, rfl, h⟩ trivial (fun _ hw => hw)))))
   ·
    rintro _ _ ⟨rfl, rfl, h⟩
    rw [m8_quirref_RunErr_K2] at h
    refine W.seq (W.region (L.y rfl (Y.assign rfl) ?_))
    refine L.nil (E.thenN (W.ret (E.ret1 rfl rfl (fun w1 hw => ?_))))
    obtain rfl := Option.some.inj h
    exact ⟨_, _, rfl, ⟨rfl, rfl⟩, hw⟩
set_option maxRecDepth 100000 in
set_option maxHeartbeats 8000000 in
theorem w12_run_Check (a0 : (List TOp)) (u0 : Value) (w : World) (r : Int) (h : m12_run_Check a0 = some r) (hA0 : At w u0 3 (a0.map TOp.row)) : Does Try.prog 12 [u0] w fun u m => u = .int .i64 r ∧ m = [] := by
  rw [m12_run_Check] at h
  refine body (n := 55) Try.func12 rfl rfl rfl (Cls.refl w) ?_
  refine W.seq (W.region (L.y rfl (Y.assign rfl) ?_))
  refine L.nil (E.thenN (W.seqJ (fun gs D => gs = [(0, u0)] ∧ D = Cls w [] [] ∧ m12_run_Check_K1 a0 = some r) ?_ ?_))
  ·
   refine W.seq (W.region (L.y rfl (Y.move rfl) ?_))
   refine L.y rfl (Y.lenM (g := TOp.row) (l := a0) Try.underlying22 rfl (fun w' hw => hA0.cls0 hw)) ?_
   refine L.ite h rfl (Y.gtr rfl rfl) (fun c20 h => ?_) (fun c20 h => ?_)
   ·
    refine L.nil (E.thenN (W.condT rfl ?_))
    refine W.seq (W.region (L.y rfl (Y.assign rfl) ?_))
    refine L.nil (E.thenN (W.ret (E.KSR (E.ret1 rfl rfl (fun w1 hw => ?_)))))
    obtain rfl := Option.some.inj h
    exact ⟨_, _, rfl, ⟨rfl, rfl⟩, hw⟩
   ·
    refine L.nil (E.thenN (W.condF rfl ?_))
    exact W.skip (E.joinJ ⟨rfl, rfl, h⟩ ⟨rfl, trivial⟩ (fun _ hw => hw))
  ·
   rintro _ _ ⟨rfl, rfl, h⟩
   rw [m12_run_Check_K1] at h
   refine W.seq (W.region (L.alloc rfl ze85 ?_))
   intro b1
   refine L.to (D := Cls w [] [.obj b1 (((List.replicate 12 (false : Bool)).map B).flatten) 85]) (fun _ hw => by first | exact hw | simpa [I, B, SR] using hw) ?_
   refine L.nil (E.thenN (W.seqJ (fun gs D => gs = [] ∧ D = Cls w [] [] ∧ m12_run_Check_K2 = some r) ?_ ?_))
   ·
    refine W.seq (W.region (L.y rfl (Y.move rfl) ?_))
    refine L.y rfl (Y.lenM (g := TOp.row) (l := a0) Try.underlying22 rfl (fun w' hw => hA0.cls0 hw)) ?_
    refine L.y rfl (Y.move rfl) ?_
    refine L.nil (E.thenN (W.block (W.loopJ (fun m gs D => ∃ (gx1 : Int) (gl2 : (List Bool)), gs = [(3, pt b1 0), (9, u0), (10, .int .i64 (a0.length : Int)), (11, .int .i64 gx1)] ∧ D = Cls w [] [.obj b1 ((gl2.map B).flatten) 85] ∧ m12_run_Check_L1 a0 m gx1 gl2 = some r) ⟨0, (List.replicate 12 (false : Bool)), rfl, rfl, h⟩ ⟨rfl, rfl, rfl, rfl, trivial⟩ (fun _ hw => hw) ?_)))
    rintro m _ _ ⟨gx1, gl2, rfl, rfl, h⟩
    rcases m with _ | m
    · rw [m12_run_Check_L1] at h; cases h
    rw [m12_run_Check_L1] at h
    generalize hg1 : m12_run_Check_L1 a0 m = go1 at h
    rw [m12_run_Check_L1B] at h
    refine W.seq (W.region (L.ite h rfl (Y.lss rfl rfl) (fun c2 h => ?_) (fun c2 h => ?_)))
    ·
     refine L.nil (E.thenN (W.seq (W.condT rfl ?_)))
     refine W.skip (E.thenN (W.seqJ (fun gs D => ∃ (gl3 : (List Bool)), gs = [(3, pt b1 0), (9, u0), (10, .int .i64 (a0.length : Int)), (11, .int .i64 gx1)] ∧ D = Cls w [] [.obj b1 ((gl3.map B).flatten) 85] ∧ m12_run_Check_K3 gx1 go1 gl3 = some r) ?_ ?_))
     ·
      refine W.block (W.seq (W.region (L.m (V := fun _ => el u0 (gx1.toNat * 3)) h rfl (Y.indexM (g := TOp.row) (l := a0) Try.underlying22 sz83 rfl rfl (fun w' hw => hA0.cls0 hw)) (fun x4 ex4 h => ?_))))
      refine L.y rfl (Y.loadEN (r := [.int .i64 x4.Tx, .int .i64 x4.Kind, .int .i64 x4.Item]) ag83 sz83 rfl (fun w' hw => hA0.cls0 hw) (idx_map ex4) rfl) ?_
      refine L.alloc rfl ze83 ?_
      intro b5
      refine L.store (i := 0) sz83 rfl rfl rfl rfl (by simp [Value.oneCell', Value.cells, st]) rfl (Nat.le_of_ble_eq_true rfl) ?_
      refine L.nil (E.thenN (W.seqJ (fun gs D => gs = [(3, pt b1 0), (5, pt b5 0), (9, u0), (10, .int .i64 (a0.length : Int)), (11, .int .i64 gx1)] ∧ D = Cls w [] [.obj b5 [.int .i64 x4.Tx, .int .i64 x4.Kind, .int .i64 x4.Item] 83, .obj b1 ((gl2.map B).flatten) 85] ∧ m12_run_Check_K4 x4 gl2 gx1 go1 = some r) ?_ ?_))
      ·
       refine W.seq (W.region (L.cutJ 8 (fun gs D => ∃ (gb5 : Bool), gs = [(3, pt b1 0), (5, pt b5 0), (9, u0), (10, .int .i64 (a0.length : Int)), (11, .int .i64 gx1), (22, .bool gb5)] ∧ D = Cls w [] [.obj b5 [.int .i64 x4.Tx, .int .i64 x4.Kind, .int .i64 x4.Item] 83, .obj b1 ((gl2.map B).flatten) 85] ∧ m12_run_Check_K7 x4 gl2 gx1 go1 gb5 = some r) ?_ ?_))
       ·
        refine L.y rfl (Y.fieldP fd83_0 rfl) ?_
        refine L.y rfl (Y.loadP (i := 0) ag3 rfl rfl rfl) ?_
        refine L.ite h rfl (Y.lss rfl rfl) (fun c18 h => ?_) (fun c18 h => ?_)
        ·
         refine L.y rfl (Y.move rfl) ?_
         refine L.pass rfl rfl (by nofun) ?_
         refine L.pass rfl rfl (by nofun) ?_
         refine L.pass rfl rfl (by nofun) ?_
         refine L.y rfl (Y.pickT rfl rfl) ?_
         exact L.nil (E.joinJ ⟨true, rfl, rfl, h⟩ ⟨rfl, rfl, rfl, rfl, rfl, rfl, trivial⟩ (fun _ hw => hw))
        ·
         refine L.y rfl (Y.move rfl) ?_
         refine L.take rfl (L.y rfl (Y.fieldP fd83_0 rfl) ?_)
         refine L.take rfl (L.y rfl (Y.loadP (i := 0) ag3 rfl rfl rfl) ?_)
         refine L.take rfl (L.ite h rfl (Y.geq rfl rfl) (fun c19 h => ?_) (fun c19 h => ?_))
         ·
          refine L.y rfl (Y.pickF rfl rfl) ?_
          exact L.nil (E.joinJ ⟨true, rfl, rfl, h⟩ ⟨rfl, rfl, rfl, rfl, rfl, rfl, trivial⟩ (fun _ hw => hw))
         ·
          refine L.y rfl (Y.pickF rfl rfl) ?_
          exact L.nil (E.joinJ ⟨false, rfl, rfl, h⟩ ⟨rfl, rfl, rfl, rfl, rfl, rfl, trivial⟩ (fun _ hw => hw))
       ·
        rintro _ _ ⟨gb5, rfl, rfl, h⟩
        rw [m12_run_Check_K7] at h
        rcases gb5 with _ | _
        ·
         replace h := iteF h
         refine L.y rfl (Y.move rfl) ?_
         refine L.take rfl (L.y rfl (Y.fieldP fd83_2 rfl) ?_)
         refine L.take rfl (L.y rfl (Y.loadP (i := 0) ag3 rfl rfl rfl) ?_)
         refine L.take rfl (L.ite h rfl (Y.lss rfl rfl) (fun c16 h => ?_) (fun c16 h => ?_))
         ·
          refine L.y rfl (Y.pickF rfl rfl) ?_
          refine L.y rfl (Y.move rfl) ?_
          refine L.pass rfl rfl (by nofun) ?_
          refine L.pass rfl rfl (by nofun) ?_
          refine L.pass rfl rfl (by nofun) ?_
          refine L.y rfl (Y.pickT rfl rfl) ?_
          refine L.nil (E.thenN (W.condT rfl ?_))
          refine W.seq (W.region (L.y rfl (Y.assign rfl) ?_))
          refine L.nil (E.thenN (W.ret (E.KSR (E.blockR (E.KSR (E.KLR (E.blockR (E.KSR (E.ret1 rfl rfl (fun w1 hw => ?_))))))))))
          obtain rfl := Option.some.inj h
          exact ⟨_, _, rfl, ⟨rfl, rfl⟩, hw.sel [] (by decide) rfl⟩
         ·
          refine L.y rfl (Y.pickF rfl rfl) ?_
          refine L.y rfl (Y.move rfl) ?_
          refine L.take rfl (L.y rfl (Y.fieldP fd83_2 rfl) ?_)
          refine L.take rfl (L.y rfl (Y.loadP (i := 0) ag3 rfl rfl rfl) ?_)
          refine L.take rfl (L.ite h rfl (Y.geq rfl rfl) (fun c17 h => ?_) (fun c17 h => ?_))
          ·
           refine L.y rfl (Y.pickF rfl rfl) ?_
           refine L.nil (E.thenN (W.condT rfl ?_))
           refine W.seq (W.region (L.y rfl (Y.assign rfl) ?_))
           refine L.nil (E.thenN (W.ret (E.KSR (E.blockR (E.KSR (E.KLR (E.blockR (E.KSR (E.ret1 rfl rfl (fun w1 hw => ?_))))))))))
           obtain rfl := Option.some.inj h
           exact ⟨_, _, rfl, ⟨rfl, rfl⟩, hw.sel [] (by decide) rfl⟩
          ·
           refine L.y rfl (Y.pickF rfl rfl) ?_
           refine L.nil (E.thenN (W.condF rfl ?_))
           exact W.skip (E.joinJ ⟨rfl, rfl, h⟩ ⟨rfl, rfl, rfl, rfl, rfl, trivial⟩ (fun _ hw => hw))
        ·
         replace h := iteT h
         refine L.y rfl (Y.move rfl) ?_
         refine L.pass rfl rfl (by nofun) ?_
         refine L.pass rfl rfl (by nofun) ?_
         refine L.pass rfl rfl (by nofun) ?_
         refine L.y rfl (Y.pickT rfl rfl) ?_
         refine L.y rfl (Y.move rfl) ?_
         refine L.pass rfl rfl (by nofun) ?_
         refine L.pass rfl rfl (by nofun) ?_
         refine L.pass rfl rfl (by nofun) ?_
         refine L.y rfl (Y.pickT rfl rfl) ?_
         refine L.nil (E.thenN (W.condT rfl ?_))
         refine W.seq (W.region (L.y rfl (Y.assign rfl) ?_))
         refine L.nil (E.thenN (W.ret (E.KSR (E.blockR (E.KSR (E.KLR (E.blockR (E.KSR (E.ret1 rfl rfl (fun w1 hw => ?_))))))))))
         obtain rfl := Option.some.inj h
         exact ⟨_, _, rfl, ⟨rfl, rfl⟩, hw.sel [] (by decide) rfl⟩
      ·
       rintro _ _ ⟨rfl, rfl, h⟩
       rw [m12_run_Check_K4] at h
       refine W.seqJ (fun gs D => gs = [(3, pt b1 0), (5, pt b5 0), (9, u0), (10, .int .i64 (a0.length : Int)), (11, .int .i64 gx1)] ∧ D = Cls w [] [.obj b5 [.int .i64 x4.Tx, .int .i64 x4.Kind, .int .i64 x4.Item] 83, .obj b1 ((gl2.map B).flatten) 85] ∧ m12_run_Check_K5 gl2 x4 gx1 go1 = some r) ?_ ?_
       ·
        refine W.seq (W.region (L.y rfl (Y.fieldP fd83_1 rfl) ?_))
        refine L.y rfl (Y.loadP (i := 0) ag3 rfl rfl rfl) ?_
        refine L.nil (E.thenN (W.block (W.seqJ (fun gs D => ∃ (gb4 : Bool), gs = [(3, pt b1 0), (5, pt b5 0), (9, u0), (10, .int .i64 (a0.length : Int)), (11, .int .i64 gx1), (34, .int .i64 x4.Kind), (35, .bool gb4)] ∧ D = Cls w [] [.obj b5 [.int .i64 x4.Tx, .int .i64 x4.Kind, .int .i64 x4.Item] 83, .obj b1 ((gl2.map B).flatten) 85] ∧ m12_run_Check_K6 gl2 x4 gx1 go1 gb4 = some r) ?_ ?_)))
        ·
         refine W.seq (W.region (L.ite h rfl (Y.eql rfl rfl) (fun c14 h => ?_) (fun c14 h => ?_)))
         ·
          refine L.y rfl (Y.assign rfl) ?_
          refine L.nil (E.thenN (W.condT rfl ?_))
          exact W.skip (E.joinJ ⟨true, rfl, rfl, h⟩ ⟨rfl, rfl, rfl, rfl, rfl, rfl, rfl, trivial⟩ (fun _ hw => hw))
         ·
          refine L.y rfl (Y.assign rfl) ?_
          refine L.nil (E.thenN (W.condF rfl ?_))
          refine W.region (L.ite h rfl (Y.eql rfl rfl) (fun c15 h => ?_) (fun c15 h => ?_))
          ·
           refine L.y rfl (Y.assign rfl) ?_
           exact L.nil (E.joinJ ⟨true, rfl, rfl, h⟩ ⟨rfl, rfl, rfl, rfl, rfl, rfl, rfl, trivial⟩ (fun _ hw => hw))
          ·
           refine L.y rfl (Y.assign rfl) ?_
           exact L.nil (E.joinJ ⟨false, rfl, rfl, h⟩ ⟨rfl, rfl, rfl, rfl, rfl, rfl, rfl, trivial⟩ (fun _ hw => hw))
        ·
         rintro _ _ ⟨gb4, rfl, rfl, h⟩
         rw [m12_run_Check_K6] at h
         rcases gb4 with _ | _
         ·
          replace h := iteF h
          refine W.condF rfl ?_
          refine W.seq (W.seq (W.region (L.ite h rfl (Y.eql rfl rfl) (fun c10 h => ?_) (fun c10 h => ?_))))
          ·
           refine L.y rfl (Y.assign rfl) ?_
           refine L.nil (E.thenN (W.condT rfl ?_))
           refine W.skip (E.thenN (W.condT rfl ?_))
           refine W.seq (W.region (L.y rfl (Y.fieldP fd83_2 rfl) ?_))
           refine L.y rfl (Y.loadP (i := 0) ag3 rfl rfl rfl) ?_
           refine L.ite h rfl (Y.neq rfl rfl) (fun c11 h => ?_) (fun c11 h => ?_)
           ·
            refine L.nil (E.thenN (W.condT rfl ?_))
            refine W.seq (W.region (L.y rfl (Y.assign rfl) ?_))
            refine L.nil (E.thenN (W.ret (E.blockR (E.KSR (E.blockR (E.KSR (E.KLR (E.blockR (E.KSR (E.ret1 rfl rfl (fun w1 hw => ?_)))))))))))
            obtain rfl := Option.some.inj h
            exact ⟨_, _, rfl, ⟨rfl, rfl⟩, hw.sel [] (by decide) rfl⟩
           ·
            refine L.nil (E.thenN (W.condF rfl ?_))
            exact W.skip (E.blockN (E.joinJ ⟨rfl, rfl, h⟩ ⟨rfl, rfl, rfl, rfl, rfl, trivial⟩ (fun _ hw => hw)))
          ·
           refine L.y rfl (Y.assign rfl) ?_
           refine L.nil (E.thenN (W.condF rfl ?_))
           refine W.region (L.ite h rfl (Y.eql rfl rfl) (fun c12 h => ?_) (fun c12 h => ?_))
           ·
            refine L.y rfl (Y.assign rfl) ?_
            refine L.nil (E.thenN (W.condT rfl ?_))
            refine W.seq (W.region (L.y rfl (Y.fieldP fd83_2 rfl) ?_))
            refine L.y rfl (Y.loadP (i := 0) ag3 rfl rfl rfl) ?_
            refine L.ite h rfl (Y.neq rfl rfl) (fun c13 h => ?_) (fun c13 h => ?_)
            ·
             refine L.nil (E.thenN (W.condT rfl ?_))
             refine W.seq (W.region (L.y rfl (Y.assign rfl) ?_))
             refine L.nil (E.thenN (W.ret (E.blockR (E.KSR (E.blockR (E.KSR (E.KLR (E.blockR (E.KSR (E.ret1 rfl rfl (fun w1 hw => ?_)))))))))))
             obtain rfl := Option.some.inj h
             exact ⟨_, _, rfl, ⟨rfl, rfl⟩, hw.sel [] (by decide) rfl⟩
            ·
             refine L.nil (E.thenN (W.condF rfl ?_))
             exact W.skip (E.blockN (E.joinJ ⟨rfl, rfl, h⟩ ⟨rfl, rfl, rfl, rfl, rfl, trivial⟩ (fun _ hw => hw)))
           ·
            refine L.y rfl (Y.assign rfl) ?_
            refine L.nil (E.thenN (W.condF rfl ?_))
            refine W.seq (W.region (L.y rfl (Y.assign rfl) ?_))
            refine L.nil (E.thenN (W.ret (E.blockR (E.KSR (E.blockR (E.KSR (E.KLR (E.blockR (E.KSR (E.ret1 rfl rfl (fun w1 hw => ?_)))))))))))
            obtain rfl := Option.some.inj h
            exact ⟨_, _, rfl, ⟨rfl, rfl⟩, hw.sel [] (by decide) rfl⟩
         ·
          replace h := iteT h
          refine W.condT rfl ?_
          exact W.skip (E.blockN (E.joinJ ⟨rfl, rfl, h⟩ ⟨rfl, rfl, rfl, rfl, rfl, trivial⟩ (fun _ hw => hw)))
       ·
        rintro _ _ ⟨rfl, rfl, h⟩
        rw [m12_run_Check_K5] at h
        refine W.seq (W.seq (W.region (L.y rfl (Y.fieldP fd83_0 rfl) ?_)))
        refine L.y rfl (Y.loadP (i := 0) ag3 rfl rfl rfl) ?_
        refine L.m (V := fun _ => pt b1 (0 + x4.Tx.toNat * 1)) h rfl (Y.indexAM (l := gl2) Try.underlying85 sz4 rfl rfl) (fun x6 ex6 h => ?_)
        refine L.iteB h rfl (Y.loadAr (q := 1) (row := B) (j := 0) (p := .bool x6) ag4 rfl rfl rfl (fun _ => rfl) (idxA_idx ex6) rfl) (fun c7 h => ?_) (fun c7 h => ?_)
        ·
         refine L.nil (E.thenN (W.condT rfl ?_))
         refine W.seq (W.region (L.y rfl (Y.assign rfl) ?_))
         refine L.nil (E.thenN (W.ret (E.thenR (E.blockR (E.KSR (E.KLR (E.blockR (E.KSR (E.ret1 rfl rfl (fun w1 hw => ?_))))))))))
         obtain rfl := Option.some.inj h
         exact ⟨_, _, rfl, ⟨rfl, rfl⟩, hw.sel [] (by decide) rfl⟩
        ·
         refine L.nil (E.thenN (W.condF rfl ?_))
         refine W.skip (E.thenN (W.region (L.y rfl (Y.fieldP fd83_0 rfl) ?_)))
         refine L.y rfl (Y.loadP (i := 0) ag3 rfl rfl rfl) ?_
         refine L.y rfl (Y.fieldP fd83_1 rfl) ?_
         refine L.y rfl (Y.loadP (i := 0) ag3 rfl rfl rfl) ?_
         refine L.y rfl (Y.geq rfl rfl) ?_
         refine L.m (V := fun _ => pt b1 (0 + x4.Tx.toNat * 1)) h rfl (Y.indexAM (l := gl2) Try.underlying85 sz4 rfl rfl) (fun x8 ex8 h => ?_)
         refine L.storeArM (q := 1) (row := B) (vs := [.bool (decide (3 ≤ x4.Kind))]) (j := 0) (u1 := decide (3 ≤ x4.Kind)) h sz4 rfl rfl rfl rfl rfl (all1 rfl all0) rfl (fun _ => rfl) (idxA_idx ex8) rfl rfl ?_
         intro l9 el9 h
         exact L.nil (E.blockN (E.joinJ ⟨l9, rfl, rfl, h⟩ ⟨rfl, rfl, rfl, rfl, trivial⟩ (fun _ hw => hw.sel [1] (by decide) rfl)))
     ·
      rintro _ _ ⟨gl3, rfl, rfl, h⟩
      rw [m12_run_Check_K3] at h
      refine W.region (L.m (V := fun x3 => .int .i64 x3) h rfl (Y.addM rfl rfl) (fun x3 ex3 h => ?_))
      refine L.y rfl (Y.move rfl) ?_
      exact L.nil (E.againJ ⟨x3, gl3, rfl, rfl, by rw [hg1]; exact h⟩ (Nat.lt_succ_self _) ⟨rfl, rfl, rfl, rfl, trivial⟩ (fun _ hw => hw))
    ·
     refine L.nil (E.thenN (W.seq (W.condF rfl ?_)))
     exact W.exit (E.thenX (E.KLX (E.blockX (E.joinJ ⟨rfl, rfl, h⟩ trivial (fun _ hw => hw.sel [] (by decide) rfl)))))
   ·
    rintro _ _ ⟨rfl, rfl, h⟩
    rw [m12_run_Check_K2] at h
    refine W.seq (W.region (L.y rfl (Y.assign rfl) ?_))
    refine L.nil (E.thenN (W.ret (E.ret1 rfl rfl (fun w1 hw => ?_))))
    obtain rfl := Option.some.inj h
    exact ⟨_, _, rfl, ⟨rfl, rfl⟩, hw⟩
set_option maxRecDepth 100000 in
set_option maxHeartbeats 8000000 in
theorem w40_run_ended (a0 : (List TOp)) (a1 : Int) (u0 : Value) (w : World) (r : (List Bool)) (h : m40_run_ended a0 a1 = some r) (hA0 : At w u0 3 (a0.map TOp.row)) : Does Try.prog 40 [u0, .int .i64 a1] w fun u m => u = .agg (r.map B).flatten.toArray ∧ m = [] := by
  rw [m40_run_ended] at h
  refine body (n := 23) Try.func40 rfl rfl rfl (Cls.refl w) ?_
  refine W.seq (W.region (L.alloc rfl ze85 ?_))
  intro b1
  refine L.to (D := Cls w [] [.obj b1 (((List.replicate 12 (false : Bool)).map B).flatten) 85]) (fun _ hw => by first | exact hw | simpa [I, B, SR] using hw) ?_
  refine L.nil (E.thenN (W.seq (W.region (L.alloc rfl ze85 ?_))))
  intro b2
  refine L.to (D := Cls w [] [.obj b2 (((List.replicate 12 (false : Bool)).map B).flatten) 85, .obj b1 (((List.replicate 12 (false : Bool)).map B).flatten) 85]) (fun _ hw => by first | exact hw | simpa [I, B, SR] using hw) ?_
  refine L.nil (E.thenN (W.seqJ (fun gs D => ∃ (gl1 : (List Bool)), gs = [(4, pt b1 0), (5, pt b2 0)] ∧ D = Cls w [] [.obj b2 ((gl1.map B).flatten) 85, .obj b1 (((List.replicate 12 (false : Bool)).map B).flatten) 85] ∧ m40_run_ended_K1 gl1 = some r) ?_ ?_))
  ·
   refine W.seq (W.region (L.y rfl (Y.move rfl) ?_))
   refine L.y rfl (Y.lenM (g := TOp.row) (l := a0) Try.underlying22 rfl (fun w' hw => hA0.cls0 hw)) ?_
   refine L.y rfl (Y.move rfl) ?_
   refine L.nil (E.thenN (W.block (W.loopJ (fun m gs D => ∃ (gx2 : Int) (gl3 : (List Bool)), gs = [(1, .int .i64 a1), (4, pt b1 0), (5, pt b2 0), (8, u0), (9, .int .i64 (a0.length : Int)), (10, .int .i64 gx2)] ∧ D = Cls w [] [.obj b2 ((gl3.map B).flatten) 85, .obj b1 (((List.replicate 12 (false : Bool)).map B).flatten) 85] ∧ m40_run_ended_L1 a0 a1 m gx2 gl3 = some r) ⟨0, (List.replicate 12 (false : Bool)), rfl, rfl, h⟩ ⟨rfl, rfl, rfl, rfl, rfl, rfl, trivial⟩ (fun _ hw => hw) ?_)))
   rintro m _ _ ⟨gx2, gl3, rfl, rfl, h⟩
   rcases m with _ | m
   · rw [m40_run_ended_L1] at h; cases h
   rw [m40_run_ended_L1] at h
   generalize hg1 : m40_run_ended_L1 a0 a1 m = go1 at h
   rw [m40_run_ended_L1B] at h
   refine W.seq (W.region (L.ite h rfl (Y.lss rfl rfl) (fun c7 h => ?_) (fun c7 h => ?_)))
   ·
    refine L.nil (E.thenN (W.seq (W.condT rfl ?_)))
    refine W.skip (E.thenN (W.seq (W.block (W.seq (W.region (L.m (V := fun _ => el u0 (gx2.toNat * 3)) h rfl (Y.indexM (g := TOp.row) (l := a0) Try.underlying22 sz83 rfl rfl (fun w' hw => hA0.cls0 hw)) (fun x8 ex8 h => ?_)))))))
    refine L.y rfl (Y.loadEN (r := [.int .i64 x8.Tx, .int .i64 x8.Kind, .int .i64 x8.Item]) ag83 sz83 rfl (fun w' hw => hA0.cls0 hw) (idx_map ex8) rfl) ?_
    refine L.alloc rfl ze83 ?_
    intro b9
    refine L.store (i := 0) sz83 rfl rfl rfl rfl (by simp [Value.oneCell', Value.cells, st]) rfl (Nat.le_of_ble_eq_true rfl) ?_
    refine L.nil (E.thenN (W.seq (W.region (L.y rfl (Y.fieldP fd83_1 rfl) ?_))))
    refine L.y rfl (Y.loadP (i := 0) ag3 rfl rfl rfl) ?_
    refine L.y rfl (Y.move rfl) ?_
    refine L.ite h rfl (Y.eql rfl rfl) (fun c10 h => ?_) (fun c10 h => ?_)
    ·
     refine L.nil (E.thenN (W.condT rfl ?_))
     refine W.region (L.y rfl (Y.fieldP fd83_0 rfl) ?_)
     refine L.y rfl (Y.loadP (i := 0) ag3 rfl rfl rfl) ?_
     refine L.m (V := fun _ => pt b2 (0 + x8.Tx.toNat * 1)) h rfl (Y.indexAM (l := gl3) Try.underlying85 sz4 rfl rfl) (fun x11 ex11 h => ?_)
     refine L.storeArM (q := 1) (row := B) (vs := [.bool true]) (j := 0) (u1 := true) h sz4 rfl rfl rfl rfl rfl (all1 rfl all0) rfl (fun _ => rfl) (idxA_idx ex11) rfl rfl ?_
     intro l12 el12 h
     refine L.nil (E.blockN (E.thenN (W.region (L.m (V := fun x13 => .int .i64 x13) h rfl (Y.addM rfl rfl) (fun x13 ex13 h => ?_)))))
     refine L.y rfl (Y.move rfl) ?_
     exact L.nil (E.againJ ⟨x13, l12, rfl, rfl, by rw [hg1]; exact h⟩ (Nat.lt_succ_self _) ⟨rfl, rfl, rfl, rfl, rfl, rfl, trivial⟩ (fun _ hw => hw.sel [1, 2] (by decide) rfl))
    ·
     refine L.nil (E.thenN (W.condF rfl ?_))
     refine W.skip (E.blockN (E.thenN (W.region (L.m (V := fun x14 => .int .i64 x14) h rfl (Y.addM rfl rfl) (fun x14 ex14 h => ?_)))))
     refine L.y rfl (Y.move rfl) ?_
     exact L.nil (E.againJ ⟨x14, gl3, rfl, rfl, by rw [hg1]; exact h⟩ (Nat.lt_succ_self _) ⟨rfl, rfl, rfl, rfl, rfl, rfl, trivial⟩ (fun _ hw => hw.sel [1, 2] (by decide) rfl))
   ·
    refine L.nil (E.thenN (W.seq (W.condF rfl ?_)))
    exact W.exit (E.thenX (E.KLX (E.blockX (E.joinJ ⟨gl3, rfl, rfl, h⟩ ⟨rfl, rfl, trivial⟩ (fun _ hw => hw)))))
  ·
   rintro _ _ ⟨gl1, rfl, rfl, h⟩
   rw [m40_run_ended_K1] at h
   refine W.seq (W.region ?_)
   obtain ⟨_, en3, h⟩ := bind1S h
   obtain ⟨_, en3⟩ := arrN_some en3
   refine L.y rfl (Y.loadArAll (q := 0) (row := B) ag85 sz85 rfl rfl (fun _ => rfl) (by rw [en3])) ?_
   obtain ⟨_, en4, h⟩ := bind1S h
   obtain ⟨_, en4⟩ := arrN_some en4
   obtain ⟨_, en5, h⟩ := bind1S h
   obtain ⟨_, en5⟩ := arrN_some en5
   refine L.storeArW (i := 1) (row := B) en4 en5 rfl (fun _ => rfl) (plain_bools _) sz85 rfl rfl rfl ?_
   refine L.nil (E.thenN (W.ret ?_))
   obtain ⟨_, en6, h⟩ := bind1S h
   obtain ⟨_, en6⟩ := arrN_some en6
   refine E.retR1 rfl (Rv.cellAr (i := 1) (row := B) ag85 sz85 rfl rfl (fun _ => rfl) (by rw [en6])) (fun w1 hw => ?_)
   obtain rfl := Option.some.inj h
   exact ⟨_, _, rfl, ⟨rfl, rfl⟩, hw.sel [] (by decide) rfl⟩
set_option maxRecDepth 100000 in
set_option maxHeartbeats 8000000 in
theorem w41_run_clash (a0 : TOp) (a1 : TOp) (w : World) (r : Bool) (h : m41_run_clash a0 a1 = some r) : Does Try.prog 41 [.agg #[.int .i64 a0.Tx, .int .i64 a0.Kind, .int .i64 a0.Item], .agg #[.int .i64 a1.Tx, .int .i64 a1.Kind, .int .i64 a1.Item]] w fun u m => u = .bool r ∧ m = [] := by
  rw [m41_run_clash] at h
  refine body (n := 37) Try.func41 rfl rfl rfl (Cls.refl w) ?_
  refine W.seq (W.region (L.box rfl rfl ?_))
  intro b1
  refine L.box rfl rfl ?_
  intro b2
  refine L.y rfl (Y.assign rfl) ?_
  refine L.nil (E.thenN (W.seq (W.region (L.cutJ 10 (fun gs D => ∃ (gb1 : Bool), gs = [(2, pt b1 0), (3, pt b2 0), (14, .bool gb1)] ∧ D = Cls w [] [.obj b2 [.int .i64 a1.Tx, .int .i64 a1.Kind, .int .i64 a1.Item] 83, .obj b1 [.int .i64 a0.Tx, .int .i64 a0.Kind, .int .i64 a0.Item] 83] ∧ m41_run_clash_K1 a1 a0 gb1 = some r) ?_ ?_))))
  ·
   refine L.y rfl (Y.fieldP fd83_0 rfl) ?_
   refine L.y rfl (Y.loadP (i := 1) ag3 rfl rfl rfl) ?_
   refine L.y rfl (Y.fieldP fd83_0 rfl) ?_
   refine L.y rfl (Y.loadP (i := 0) ag3 rfl rfl rfl) ?_
   refine L.ite h rfl (Y.neq rfl rfl) (fun c6 h => ?_) (fun c6 h => ?_)
   ·
    refine L.y rfl (Y.move rfl) ?_
    refine L.take rfl (L.y rfl (Y.fieldP fd83_1 rfl) ?_)
    refine L.take rfl (L.y rfl (Y.loadP (i := 1) ag3 rfl rfl rfl) ?_)
    refine L.take rfl (L.ite h rfl (Y.lss rfl rfl) (fun c7 h => ?_) (fun c7 h => ?_))
    ·
     refine L.y rfl (Y.pickT rfl rfl) ?_
     exact L.nil (E.joinJ ⟨true, rfl, rfl, h⟩ ⟨rfl, rfl, rfl, trivial⟩ (fun _ hw => hw))
    ·
     refine L.y rfl (Y.pickT rfl rfl) ?_
     exact L.nil (E.joinJ ⟨false, rfl, rfl, h⟩ ⟨rfl, rfl, rfl, trivial⟩ (fun _ hw => hw))
   ·
    refine L.y rfl (Y.move rfl) ?_
    refine L.pass rfl rfl (by nofun) ?_
    refine L.pass rfl rfl (by nofun) ?_
    refine L.pass rfl rfl (by nofun) ?_
    refine L.y rfl (Y.pickF rfl rfl) ?_
    exact L.nil (E.joinJ ⟨false, rfl, rfl, h⟩ ⟨rfl, rfl, rfl, trivial⟩ (fun _ hw => hw))
  ·
   rintro _ _ ⟨gb1, rfl, rfl, h⟩
   rw [m41_run_clash_K1] at h
   rcases gb1 with _ | _
   ·
    replace h := iteF h
    refine L.y rfl (Y.move rfl) ?_
    refine L.pass rfl rfl (by nofun) ?_
    refine L.pass rfl rfl (by nofun) ?_
    refine L.pass rfl rfl (by nofun) ?_
    refine L.y rfl (Y.pickF rfl rfl) ?_
    refine L.y rfl (Y.move rfl) ?_
    refine L.pass rfl rfl (by nofun) ?_
    refine L.pass rfl rfl (by nofun) ?_
    refine L.pass rfl rfl (by nofun) ?_
    refine L.pass rfl rfl (by nofun) ?_
    refine L.pass rfl rfl (by nofun) ?_
    refine L.y rfl (Y.pickF rfl rfl) ?_
    refine L.y rfl (Y.move rfl) ?_
    refine L.pass rfl rfl (by nofun) ?_
    refine L.pass rfl rfl (by nofun) ?_
    refine L.pass rfl rfl (by nofun) ?_
    refine L.pass rfl rfl (by nofun) ?_
    refine L.pass rfl rfl (by nofun) ?_
    refine L.pass rfl rfl (by nofun) ?_
    refine L.pass rfl rfl (by nofun) ?_
    refine L.pass rfl rfl (by nofun) ?_
    refine L.y rfl (Y.pickF rfl rfl) ?_
    refine L.y rfl (Y.assign rfl) ?_
    refine L.nil (E.thenN (W.ret (E.ret1 rfl rfl (fun w1 hw => ?_))))
    obtain rfl := Option.some.inj h
    exact ⟨_, _, rfl, ⟨rfl, rfl⟩, hw.sel [] (by decide) rfl⟩
   ·
    replace h := iteT h
    refine L.cutJ 12 (fun gs D => ∃ (gb2 : Bool), gs = [(2, pt b1 0), (3, pt b2 0), (26, .bool gb2)] ∧ D = Cls w [] [.obj b2 [.int .i64 a1.Tx, .int .i64 a1.Kind, .int .i64 a1.Item] 83, .obj b1 [.int .i64 a0.Tx, .int .i64 a0.Kind, .int .i64 a0.Item] 83] ∧ m41_run_clash_K2 a0 a1 gb2 = some r) ?_ ?_
    ·
     refine L.y rfl (Y.move rfl) ?_
     refine L.take rfl (L.y rfl (Y.fieldP fd83_1 rfl) ?_)
     refine L.take rfl (L.y rfl (Y.loadP (i := 0) ag3 rfl rfl rfl) ?_)
     refine L.take rfl (L.ite h rfl (Y.lss rfl rfl) (fun c4 h => ?_) (fun c4 h => ?_))
     ·
      refine L.y rfl (Y.pickT rfl rfl) ?_
      refine L.y rfl (Y.move rfl) ?_
      refine L.take rfl (L.y rfl (Y.fieldP fd83_2 rfl) ?_)
      refine L.take rfl (L.y rfl (Y.loadP (i := 1) ag3 rfl rfl rfl) ?_)
      refine L.take rfl (L.y rfl (Y.fieldP fd83_2 rfl) ?_)
      refine L.take rfl (L.y rfl (Y.loadP (i := 0) ag3 rfl rfl rfl) ?_)
      refine L.take rfl (L.ite h rfl (Y.eql rfl rfl) (fun c5 h => ?_) (fun c5 h => ?_))
      ·
       refine L.y rfl (Y.pickT rfl rfl) ?_
       exact L.nil (E.joinJ ⟨true, rfl, rfl, h⟩ ⟨rfl, rfl, rfl, trivial⟩ (fun _ hw => hw))
      ·
       refine L.y rfl (Y.pickT rfl rfl) ?_
       exact L.nil (E.joinJ ⟨false, rfl, rfl, h⟩ ⟨rfl, rfl, rfl, trivial⟩ (fun _ hw => hw))
     ·
      refine L.y rfl (Y.pickT rfl rfl) ?_
      refine L.y rfl (Y.move rfl) ?_
      refine L.pass rfl rfl (by nofun) ?_
      refine L.pass rfl rfl (by nofun) ?_
      refine L.pass rfl rfl (by nofun) ?_
      refine L.pass rfl rfl (by nofun) ?_
      refine L.pass rfl rfl (by nofun) ?_
      refine L.y rfl (Y.pickF rfl rfl) ?_
      exact L.nil (E.joinJ ⟨false, rfl, rfl, h⟩ ⟨rfl, rfl, rfl, trivial⟩ (fun _ hw => hw))
    ·
     rintro _ _ ⟨gb2, rfl, rfl, h⟩
     rw [m41_run_clash_K2] at h
     rcases gb2 with _ | _
     ·
      replace h := iteF h
      refine L.y rfl (Y.move rfl) ?_
      refine L.pass rfl rfl (by nofun) ?_
      refine L.pass rfl rfl (by nofun) ?_
      refine L.pass rfl rfl (by nofun) ?_
      refine L.pass rfl rfl (by nofun) ?_
      refine L.pass rfl rfl (by nofun) ?_
      refine L.pass rfl rfl (by nofun) ?_
      refine L.pass rfl rfl (by nofun) ?_
      refine L.pass rfl rfl (by nofun) ?_
      refine L.y rfl (Y.pickF rfl rfl) ?_
      refine L.y rfl (Y.assign rfl) ?_
      refine L.nil (E.thenN (W.ret (E.ret1 rfl rfl (fun w1 hw => ?_))))
      obtain rfl := Option.some.inj h
      exact ⟨_, _, rfl, ⟨rfl, rfl⟩, hw.sel [] (by decide) rfl⟩
     ·
      replace h := iteT h
      refine L.y rfl (Y.move rfl) ?_
      refine L.take rfl (L.y rfl (Y.fieldP fd83_1 rfl) ?_)
      refine L.take rfl (L.y rfl (Y.loadP (i := 1) ag3 rfl rfl rfl) ?_)
      refine L.take rfl (L.ite h rfl (Y.eql rfl rfl) (fun c3 h => ?_) (fun c3 h => ?_))
      ·
       refine L.take rfl (L.y rfl (Y.move rfl) ?_)
       refine L.pass rfl rfl (by nofun) ?_
       refine L.pass rfl rfl (by nofun) ?_
       refine L.pass rfl rfl (by nofun) ?_
       refine L.take rfl (L.y rfl (Y.pickT rfl rfl) ?_)
       refine L.y rfl (Y.pickT rfl rfl) ?_
       refine L.y rfl (Y.assign rfl) ?_
       refine L.nil (E.thenN (W.ret (E.ret1 rfl rfl (fun w1 hw => ?_))))
       obtain rfl := Option.some.inj h
       exact ⟨_, _, rfl, ⟨rfl, rfl⟩, hw.sel [] (by decide) rfl⟩
      ·
       refine L.take rfl (L.y rfl (Y.move rfl) ?_)
       refine L.take rfl (L.y rfl (Y.fieldP fd83_1 rfl) ?_)
       refine L.take rfl (L.y rfl (Y.loadP (i := 0) ag3 rfl rfl rfl) ?_)
       refine L.take rfl (L.y rfl (Y.eql rfl rfl) ?_)
       refine L.take rfl (L.y rfl (Y.pickF rfl rfl) ?_)
       refine L.y rfl (Y.pickT rfl rfl) ?_
       refine L.y rfl (Y.assign rfl) ?_
       refine L.nil (E.thenN (W.ret (E.ret1 rfl rfl (fun w1 hw => ?_))))
       obtain rfl := Option.some.inj h
       exact ⟨_, _, rfl, ⟨rfl, rfl⟩, hw.sel [] (by decide) rfl⟩
set_option maxRecDepth 100000 in
set_option maxHeartbeats 8000000 in
theorem w9_run_Edges (a0 : (List TOp)) (u0 : Value) (w : World) (r : ((List TEdge) × Int)) (h : m9_run_Edges a0 = some r) (hA0 : At w u0 3 (a0.map TOp.row)) : Does Try.prog 9 [u0] w fun u m => ∃ v0, u = .tuple #[v0, .int .i64 r.2] ∧ m = [.sl v0 40 2 (r.1.map TEdge.row)] := by
  rw [m9_run_Edges] at h
  refine body (n := 80) Try.func9 rfl rfl rfl (Cls.refl w) ?_
  refine W.seq (W.region (L.y rfl (Y.assign rfl) ?_))
  refine L.y rfl (Y.assign rfl) ?_
  refine L.nil (E.thenN (W.seqJ (fun gs D => gs = [(0, u0)] ∧ D = Cls w [] [] ∧ m9_run_Edges_K1 a0 = some r) ?_ ?_))
  ·
   refine W.seq (W.region (L.y rfl (Y.move rfl) ?_))
   obtain ⟨x42, e43, h⟩ := bind1S h
   refine L.y rfl (Y.does en12 rfl (fun w' hw => (w12_run_Check a0 u0 w' _ e43 (hA0.cls0 hw)).mono (fun _ _ h => h.1))) ?_
   refine L.y rfl (Y.assign rfl) ?_
   refine L.nil (E.thenN (W.seq (W.region (L.y rfl (Y.move rfl) ?_))))
   refine L.ite h rfl (Y.neq rfl rfl) (fun c44 h => ?_) (fun c44 h => ?_)
   ·
    refine L.nil (E.thenN (W.condT rfl ?_))
    refine W.seq (W.region (L.y rfl (Y.move rfl) ?_))
    refine L.y rfl (Y.assign rfl) ?_
    refine L.y rfl (Y.assign rfl) ?_
    refine L.nil (E.thenN (W.ret (E.KSR (E.ret2 rfl rfl rfl (fun w1 hw => ?_)))))
    obtain rfl := Option.some.inj h
    exact ⟨_, _, rfl, ⟨_, rfl, rfl⟩, (hw.nilSl 40 2)⟩
   ·
    refine L.nil (E.thenN (W.condF rfl ?_))
    exact W.skip (E.joinJ ⟨rfl, rfl, h⟩ ⟨rfl, trivial⟩ (fun _ hw => hw))
  ·
   rintro _ _ ⟨rfl, rfl, h⟩
   rw [m9_run_Edges_K1] at h
   refine W.seq (W.region (L.y rfl (Y.move rfl) ?_))
   obtain ⟨x1, e2, h⟩ := bind1S h
   refine L.y rfl (Y.does en40 rfl (fun w' hw => (w40_run_ended a0 3 u0 w' _ e2 (hA0.cls0 hw)).mono (fun _ _ h => h.1))) ?_
   refine L.alloc rfl ze85 ?_
   intro b3
   refine L.to (D := Cls w [] [.obj b3 (((List.replicate 12 (false : Bool)).map B).flatten) 85]) (fun _ hw => by first | exact hw | simpa [I, B, SR] using hw) ?_
   obtain ⟨_, en4, h⟩ := bind1S h
   obtain ⟨_, en4⟩ := arrN_some en4
   obtain ⟨_, en5, h⟩ := bind1S h
   obtain ⟨_, en5⟩ := arrN_some en5
   refine L.storeArW (i := 0) (row := B) en4 en5 rfl (fun _ => rfl) (plain_bools _) sz85 rfl rfl rfl ?_
   refine L.nil (E.thenN (W.seq (W.region (L.alloc rfl ze87 ?_))))
   intro b6
   refine L.to (D := Cls w [] [.obj b6 (((List.replicate 144 (false : Bool)).map B).flatten) 87, .obj b3 ((x1.map B).flatten) 85]) (fun _ hw => by first | exact hw | simpa [I, B, SR] using hw) ?_
   refine L.nil (E.thenN (W.seqJ (fun gs D => ∃ (gl1 : (List Bool)), gs = [(6, pt b6 0)] ∧ D = Cls w [] [.obj b6 ((gl1.map B).flatten) 87] ∧ m9_run_Edges_K2 gl1 = some r) ?_ ?_))
   ·
    refine W.seq (W.region (L.y rfl (Y.move rfl) ?_))
    refine L.y rfl (Y.lenM (g := TOp.row) (l := a0) Try.underlying22 rfl (fun w' hw => hA0.cls0 hw)) ?_
    refine L.y rfl (Y.move rfl) ?_
    refine L.nil (E.thenN (W.block (W.loopJ (fun m gs D => ∃ (gx12 : Int) (gl13 : (List Bool)), gs = [(0, u0), (5, pt b3 0), (6, pt b6 0), (21, u0), (22, .int .i64 (a0.length : Int)), (23, .int .i64 gx12)] ∧ D = Cls w [] [.obj b6 ((gl13.map B).flatten) 87, .obj b3 ((x1.map B).flatten) 85] ∧ m9_run_Edges_L3 a0 x1 m gx12 gl13 = some r) ⟨0, (List.replicate 144 (false : Bool)), rfl, rfl, h⟩ ⟨rfl, rfl, rfl, rfl, rfl, rfl, trivial⟩ (fun _ hw => hw) ?_)))
    rintro m _ _ ⟨gx12, gl13, rfl, rfl, h⟩
    rcases m with _ | m
    · rw [m9_run_Edges_L3] at h; cases h
    rw [m9_run_Edges_L3] at h
    generalize hg3 : m9_run_Edges_L3 a0 x1 m = go3 at h
    rw [m9_run_Edges_L3B] at h
    refine W.seq (W.region (L.ite h rfl (Y.lss rfl rfl) (fun c18 h => ?_) (fun c18 h => ?_)))
    ·
     refine L.nil (E.thenN (W.seq (W.condT rfl ?_)))
     refine W.skip (E.thenN (W.seqJ (fun gs D => ∃ (gl14 : (List Bool)), gs = [(0, u0), (5, pt b3 0), (6, pt b6 0), (21, u0), (22, .int .i64 (a0.length : Int)), (23, .int .i64 gx12)] ∧ D = Cls w [] [.obj b6 ((gl14.map B).flatten) 87, .obj b3 ((x1.map B).flatten) 85] ∧ m9_run_Edges_K5 gx12 go3 gl14 = some r) ?_ ?_))
     ·
      refine W.block (W.seq (W.region (L.y rfl (Y.move rfl) ?_)))
      refine L.m (V := fun _ => el u0 (gx12.toNat * 3)) h rfl (Y.indexM (g := TOp.row) (l := a0) Try.underlying22 sz83 rfl rfl (fun w' hw => hA0.cls0 hw)) (fun x20 ex20 h => ?_)
      refine L.y rfl (Y.loadEN (r := [.int .i64 x20.Tx, .int .i64 x20.Kind, .int .i64 x20.Item]) ag83 sz83 rfl (fun w' hw => hA0.cls0 hw) (idx_map ex20) rfl) ?_
      refine L.alloc rfl ze83 ?_
      intro b21
      refine L.y rfl (Y.assign rfl) ?_
      refine L.store (i := 0) sz83 rfl rfl rfl rfl (by simp [Value.oneCell', Value.cells, st]) rfl (Nat.le_of_ble_eq_true rfl) ?_
      refine L.nil (E.thenN (W.seq (W.region (L.y rfl (Y.move rfl) ?_))))
      refine L.y rfl (Y.move rfl) ?_
      refine L.m (V := fun x22 => .int .i64 x22) h rfl (Y.addM rfl rfl) (fun x22 ex22 h => ?_)
      refine L.m (V := fun _ => dropv u0 x22.toNat 3) h rfl (Y.dropM (g := TOp.row) Try.underlying22 sz83 rfl rfl (fun w' hw => hA0.cls0 hw)) (fun l23 el23 h => ?_)
      refine L.y rfl (Y.lenM (g := TOp.row) (l := l23) Try.underlying22 rfl (fun w' hw => (At.dropM hA0 el23).cls0 hw)) ?_
      refine L.y rfl (Y.move rfl) ?_
      refine L.nil (E.thenN (W.block (W.loopJ (fun m gs D => ∃ (gx15 : Int) (gl16 : (List Bool)), gs = [(0, u0), (5, pt b3 0), (6, pt b6 0), (8, pt b21 0), (21, u0), (22, .int .i64 (a0.length : Int)), (23, .int .i64 gx12), (31, dropv u0 x22.toNat 3), (32, .int .i64 (l23.length : Int)), (33, .int .i64 gx15)] ∧ D = Cls w [] [.obj b21 [.int .i64 x20.Tx, .int .i64 x20.Kind, .int .i64 x20.Item] 83, .obj b6 ((gl16.map B).flatten) 87, .obj b3 ((x1.map B).flatten) 85] ∧ m9_run_Edges_L4 l23 x20 x1 gx12 go3 m gx15 gl16 = some r) ⟨0, gl13, rfl, rfl, h⟩ ⟨rfl, rfl, rfl, rfl, rfl, rfl, rfl, rfl, rfl, rfl, trivial⟩ (fun _ hw => hw) ?_)))
      rintro m _ _ ⟨gx15, gl16, rfl, rfl, h⟩
      rcases m with _ | m
      · rw [m9_run_Edges_L4] at h; cases h
      rw [m9_run_Edges_L4] at h
      generalize hg4 : m9_run_Edges_L4 l23 x20 x1 gx12 go3 m = go4 at h
      rw [m9_run_Edges_L4B] at h
      refine W.seq (W.region (L.ite h rfl (Y.lss rfl rfl) (fun c24 h => ?_) (fun c24 h => ?_)))
      ·
       refine L.nil (E.thenN (W.seq (W.condT rfl ?_)))
       refine W.skip (E.thenN (W.seq (W.block (W.seq (W.region (L.m (V := fun _ => el (dropv u0 x22.toNat 3) (gx15.toNat * 3)) h rfl (Y.indexM (g := TOp.row) (l := l23) Try.underlying22 sz83 rfl rfl (fun w' hw => (At.dropM hA0 el23).cls0 hw)) (fun x25 ex25 h => ?_)))))))
       refine L.y rfl (Y.loadEN (r := [.int .i64 x25.Tx, .int .i64 x25.Kind, .int .i64 x25.Item]) ag83 sz83 rfl (fun w' hw => (At.dropM hA0 el23).cls0 hw) (idx_map ex25) rfl) ?_
       refine L.alloc rfl ze83 ?_
       intro b26
       refine L.store (i := 0) sz83 rfl rfl rfl rfl (by simp [Value.oneCell', Value.cells, st]) rfl (Nat.le_of_ble_eq_true rfl) ?_
       refine L.nil (E.thenN (W.seq (W.region (L.cutJ 9 (fun gs D => ∃ (gb17 : Bool), gs = [(0, u0), (5, pt b3 0), (6, pt b6 0), (8, pt b21 0), (10, pt b26 0), (21, u0), (22, .int .i64 (a0.length : Int)), (23, .int .i64 gx12), (31, dropv u0 x22.toNat 3), (32, .int .i64 (l23.length : Int)), (33, .int .i64 gx15), (45, .bool gb17)] ∧ D = Cls w [] [.obj b26 [.int .i64 x25.Tx, .int .i64 x25.Kind, .int .i64 x25.Item] 83, .obj b21 [.int .i64 x20.Tx, .int .i64 x20.Kind, .int .i64 x20.Item] 83, .obj b6 ((gl16.map B).flatten) 87, .obj b3 ((x1.map B).flatten) 85] ∧ m9_run_Edges_K6 x1 x25 x20 gl16 gx15 go4 gb17 = some r) ?_ ?_))))
       ·
        refine L.y rfl (Y.loadPW (i := 1) ag83 sz83 rfl rfl rfl) ?_
        refine L.y rfl (Y.loadPW (i := 0) ag83 sz83 rfl rfl rfl) ?_
        obtain ⟨b38, e39, h⟩ := bind1S h
        refine L.y rfl (Y.does en41 rfl (fun w' hw => (w41_run_clash x20 x25 w' _ e39).mono (fun _ _ h => h.1))) ?_
        rcases b38 with _ | _
        ·
         replace h := iteF h
         refine L.y rfl (Y.move rfl) ?_
         refine L.pass rfl rfl (by nofun) ?_
         refine L.pass rfl rfl (by nofun) ?_
         refine L.pass rfl rfl (by nofun) ?_
         refine L.pass rfl rfl (by nofun) ?_
         refine L.y rfl (Y.pickF rfl rfl) ?_
         exact L.nil (E.joinJ ⟨false, rfl, rfl, h⟩ ⟨rfl, rfl, rfl, rfl, rfl, rfl, rfl, rfl, rfl, rfl, rfl, rfl, trivial⟩ (fun _ hw => hw))
        ·
         replace h := iteT h
         refine L.y rfl (Y.move rfl) ?_
         refine L.take rfl (L.y rfl (Y.fieldP fd83_0 rfl) ?_)
         refine L.take rfl (L.y rfl (Y.loadP (i := 1) ag3 rfl rfl rfl) ?_)
         refine L.take rfl (L.m (V := fun _ => pt b3 (0 + x20.Tx.toNat * 1)) h rfl (Y.indexAM (l := x1) Try.underlying85 sz4 rfl rfl) (fun x40 ex40 h => ?_))
         refine L.take rfl (L.iteB h rfl (Y.loadAr (q := 3) (row := B) (j := 0) (p := .bool x40) ag4 rfl rfl rfl (fun _ => rfl) (idxA_idx ex40) rfl) (fun c41 h => ?_) (fun c41 h => ?_))
         ·
          refine L.y rfl (Y.pickT rfl rfl) ?_
          exact L.nil (E.joinJ ⟨true, rfl, rfl, h⟩ ⟨rfl, rfl, rfl, rfl, rfl, rfl, rfl, rfl, rfl, rfl, rfl, rfl, trivial⟩ (fun _ hw => hw))
         ·
          refine L.y rfl (Y.pickT rfl rfl) ?_
          exact L.nil (E.joinJ ⟨false, rfl, rfl, h⟩ ⟨rfl, rfl, rfl, rfl, rfl, rfl, rfl, rfl, rfl, rfl, rfl, rfl, trivial⟩ (fun _ hw => hw))
       ·
        rintro _ _ ⟨gb17, rfl, rfl, h⟩
        rw [m9_run_Edges_K6] at h
        rcases gb17 with _ | _
        ·
         replace h := iteF h
         refine L.y rfl (Y.move rfl) ?_
         refine L.pass rfl rfl (by nofun) ?_
         refine L.pass rfl rfl (by nofun) ?_
         refine L.pass rfl rfl (by nofun) ?_
         refine L.pass rfl rfl (by nofun) ?_
         refine L.y rfl (Y.pickF rfl rfl) ?_
         refine L.nil (E.thenN (W.condF rfl ?_))
         refine W.skip (E.blockN (E.thenN (W.region (L.m (V := fun x27 => .int .i64 x27) h rfl (Y.addM rfl rfl) (fun x27 ex27 h => ?_)))))
         refine L.y rfl (Y.move rfl) ?_
         exact L.nil (E.againJ ⟨x27, gl16, rfl, rfl, by rw [hg4]; exact h⟩ (Nat.lt_succ_self _) ⟨rfl, rfl, rfl, rfl, rfl, rfl, rfl, rfl, rfl, rfl, trivial⟩ (fun _ hw => hw.sel [1, 2, 3] (by decide) rfl))
        ·
         replace h := iteT h
         refine L.y rfl (Y.move rfl) ?_
         refine L.take rfl (L.y rfl (Y.fieldP fd83_0 rfl) ?_)
         refine L.take rfl (L.y rfl (Y.loadP (i := 0) ag3 rfl rfl rfl) ?_)
         refine L.take rfl (L.m (V := fun _ => pt b3 (0 + x25.Tx.toNat * 1)) h rfl (Y.indexAM (l := x1) Try.underlying85 sz4 rfl rfl) (fun x28 ex28 h => ?_))
         refine L.take rfl (L.iteB h rfl (Y.loadAr (q := 3) (row := B) (j := 0) (p := .bool x28) ag4 rfl rfl rfl (fun _ => rfl) (idxA_idx ex28) rfl) (fun c29 h => ?_) (fun c29 h => ?_))
         ·
          refine L.y rfl (Y.pickT rfl rfl) ?_
          refine L.nil (E.thenN (W.condT rfl ?_))
          refine W.drawn2 (k := 7) (stC [[6]] [Cls w [] [.obj b26 [.int .i64 x25.Tx, .int .i64 x25.Kind, .int .i64 x25.Item] 83, .obj b21 [.int .i64 x20.Tx, .int .i64 x20.Kind, .int .i64 x20.Item] 83, .obj b6 ((gl16.map B).flatten) 87, .obj b3 ((x1.map B).flatten) 85]] (Cls w [] [.obj b26 [.int .i64 x25.Tx, .int .i64 x25.Kind, .int .i64 x25.Item] 83, .obj b21 [.int .i64 x20.Tx, .int .i64 x20.Kind, .int .i64 x20.Item] 83, .obj b3 ((x1.map B).flatten) 85])) rfl mixed (fun _ hw => hw.drew) (Sc.now (by kernel_rfl) (fun _ hw => hw)) ?_
          refine V2.y (i := 0) (Nx2.of (Z := Cls w [] [.obj b26 [.int .i64 x25.Tx, .int .i64 x25.Kind, .int .i64 x25.Item] 83, .obj b21 [.int .i64 x20.Tx, .int .i64 x20.Kind, .int .i64 x20.Item] 83, .obj b3 ((x1.map B).flatten) 85]) [] (by kernel_rfl) rfl (Zc.on (fun _ hw => hw.sel [0, 1, 3] (by decide) rfl) (Zc.fin (fun _ hw => hw)))) rfl rfl rfl (Y.fieldP fd83_0 rfl) ?_
          refine V2.y (i := 1) (Nx2.of (Z := Cls w [] [.obj b26 [.int .i64 x25.Tx, .int .i64 x25.Kind, .int .i64 x25.Item] 83, .obj b21 [.int .i64 x20.Tx, .int .i64 x20.Kind, .int .i64 x20.Item] 83, .obj b3 ((x1.map B).flatten) 85]) [] (by kernel_rfl) rfl (Zc.on (fun _ hw => hw.sel [0, 1, 3] (by decide) rfl) (Zc.fin (fun _ hw => hw)))) rfl rfl rfl (Y.loadP (i := 1) ag3 rfl rfl rfl) ?_
          refine V2.y (i := 2) (Nx2.of (Z := Cls w [] [.obj b26 [.int .i64 x25.Tx, .int .i64 x25.Kind, .int .i64 x25.Item] 83, .obj b21 [.int .i64 x20.Tx, .int .i64 x20.Kind, .int .i64 x20.Item] 83, .obj b3 ((x1.map B).flatten) 85]) [] (by kernel_rfl) rfl (Zc.on (fun _ hw => hw.sel [0, 1, 3] (by decide) rfl) (Zc.fin (fun _ hw => hw)))) rfl rfl rfl (Y.fieldP fd83_0 rfl) ?_
          refine V2.y (i := 3) (Nx2.of (Z := Cls w [] [.obj b26 [.int .i64 x25.Tx, .int .i64 x25.Kind, .int .i64 x25.Item] 83, .obj b21 [.int .i64 x20.Tx, .int .i64 x20.Kind, .int .i64 x20.Item] 83, .obj b3 ((x1.map B).flatten) 85]) [] (by kernel_rfl) rfl (Zc.on (fun _ hw => hw.sel [0, 1, 3] (by decide) rfl) (Zc.fin (fun _ hw => hw)))) rfl rfl rfl (Y.loadP (i := 0) ag3 rfl rfl rfl) ?_
          refine V2.eff (i := 4) (by kernel_rfl) rfl ?_
          refine L.m (V := fun _ => pt b6 (0 + x20.Tx.toNat * 12)) h rfl (Y.indexR Try.underlying87 sz85 rfl rfl) (fun x33 ex33 h => ?_)
          refine L.nil (E.toV2 (stC [[6]] [Cls w [] [.obj b26 [.int .i64 x25.Tx, .int .i64 x25.Kind, .int .i64 x25.Item] 83, .obj b21 [.int .i64 x20.Tx, .int .i64 x20.Kind, .int .i64 x20.Item] 83, .obj b6 ((gl16.map B).flatten) 87, .obj b3 ((x1.map B).flatten) 85]] (Cls w [] [.obj b26 [.int .i64 x25.Tx, .int .i64 x25.Kind, .int .i64 x25.Item] 83, .obj b21 [.int .i64 x20.Tx, .int .i64 x20.Kind, .int .i64 x20.Item] 83, .obj b3 ((x1.map B).flatten) 85])) 4 (by kernel_rfl) (Sc.stay (fun _ hw => hw) (Sc.stayD (fun _ hw => hw))) (Sc.now (by kernel_rfl) (fun _ hw => hw)) ?_)
          refine V2.m (i := 5) (V' := fun _ => pt b6 (0 + (x20.Tx * (12 : Nat) + x25.Tx).toNat * 1)) h (Nx2.of (Z := Cls w [] [.obj b26 [.int .i64 x25.Tx, .int .i64 x25.Kind, .int .i64 x25.Item] 83, .obj b21 [.int .i64 x20.Tx, .int .i64 x20.Kind, .int .i64 x20.Item] 83, .obj b6 ((gl16.map B).flatten) 87, .obj b3 ((x1.map B).flatten) 85]) [6] (by kernel_rfl) rfl (Zc.at1 (fun _ hw => hw))) rfl rfl rfl (Y.index2 (a := x20.Tx) (l := gl16) Try.underlying85 sz4 rfl rfl) (fun x34 ex34 h => ?_)
          refine V2.eff (i := 6) (by kernel_rfl) rfl ?_
          refine L.storeArM (q := 2) (row := B) (vs := [.bool true]) (j := 0) (u1 := true) h sz4 rfl rfl rfl rfl rfl (all1 rfl all0) rfl (fun _ => rfl) (idx2_idx ex34) rfl rfl ?_
          intro l35 el35 h
          refine L.nil (E.toV2 (stC [] [] (Cls w [] [.obj b26 [.int .i64 x25.Tx, .int .i64 x25.Kind, .int .i64 x25.Item] 83, .obj b21 [.int .i64 x20.Tx, .int .i64 x20.Kind, .int .i64 x20.Item] 83, .obj b3 ((x1.map B).flatten) 85])) 6 (by kernel_rfl) (Sc.past rfl (Sc.stayD (fun _ hw => hw))) (Sc.atD (fun _ hw => hw.sel [0, 1, 3] (by decide) rfl)) ?_)
          refine V2.done (by kernel_rfl) ?_
          refine E.blockN (E.thenN (W.region (L.m (V := fun x36 => .int .i64 x36) h rfl (Y.addM rfl rfl) (fun x36 ex36 h => ?_))))
          refine L.y rfl (Y.move rfl) ?_
          exact L.nil (E.againJ ⟨x36, l35, rfl, rfl, by rw [hg4]; exact h⟩ (Nat.lt_succ_self _) ⟨rfl, rfl, rfl, rfl, rfl, rfl, rfl, rfl, rfl, rfl, trivial⟩ (fun _ hw => hw.sel [1, 2, 3] (by decide) rfl))
         ·
          refine L.y rfl (Y.pickT rfl rfl) ?_
          refine L.nil (E.thenN (W.condF rfl ?_))
          refine W.skip (E.blockN (E.thenN (W.region (L.m (V := fun x37 => .int .i64 x37) h rfl (Y.addM rfl rfl) (fun x37 ex37 h => ?_)))))
          refine L.y rfl (Y.move rfl) ?_
          exact L.nil (E.againJ ⟨x37, gl16, rfl, rfl, by rw [hg4]; exact h⟩ (Nat.lt_succ_self _) ⟨rfl, rfl, rfl, rfl, rfl, rfl, rfl, rfl, rfl, rfl, trivial⟩ (fun _ hw => hw.sel [1, 2, 3] (by decide) rfl))
      ·
       refine L.nil (E.thenN (W.seq (W.condF rfl ?_)))
       exact W.exit (E.thenX (E.KLX (E.blockX (E.blockN (E.joinJ ⟨gl16, rfl, rfl, h⟩ ⟨rfl, rfl, rfl, rfl, rfl, rfl, trivial⟩ (fun _ hw => hw.sel [1, 2] (by decide) rfl))))))
     ·
      rintro _ _ ⟨gl14, rfl, rfl, h⟩
      rw [m9_run_Edges_K5] at h
      refine W.region (L.m (V := fun x19 => .int .i64 x19) h rfl (Y.addM rfl rfl) (fun x19 ex19 h => ?_))
      refine L.y rfl (Y.move rfl) ?_
      exact L.nil (E.againJ ⟨x19, gl14, rfl, rfl, by rw [hg3]; exact h⟩ (Nat.lt_succ_self _) ⟨rfl, rfl, rfl, rfl, rfl, rfl, trivial⟩ (fun _ hw => hw))
    ·
     refine L.nil (E.thenN (W.seq (W.condF rfl ?_)))
     exact W.exit (E.thenX (E.KLX (E.blockX (E.joinJ ⟨gl13, rfl, rfl, h⟩ ⟨rfl, trivial⟩ (fun _ hw => hw.sel [0] (by decide) rfl)))))
   ·
    rintro _ _ ⟨gl1, rfl, rfl, h⟩
    rw [m9_run_Edges_K2] at h
    refine W.seq (W.region (L.y rfl (Y.assign rfl) ?_))
    refine L.nil (E.thenN (W.seqJ (fun gs D => ∃ (gv2 : Value) (gl3 : (List TEdge)), gs = [(11, gv2)] ∧ D = Cls w [] [.sl gv2 40 2 (gl3.map TEdge.row)] ∧ m9_run_Edges_K3 gl3 = some r) ?_ ?_))
    ·
     refine W.seq (W.region (L.y rfl (Y.move rfl) ?_))
     refine L.nil (E.thenN (W.block (W.nilSl 40 2 ?_)))
     refine W.loopJ (fun m gs D => ∃ (gv4 : Value) (gl5 : (List TEdge)) (gx6 : Int), gs = [(6, pt b6 0), (11, gv4), (60, .int .i64 gx6)] ∧ D = Cls w [] [.obj b6 ((gl1.map B).flatten) 87, .sl gv4 40 2 (gl5.map TEdge.row)] ∧ m9_run_Edges_L1 gl1 m gl5 gx6 = some r) ⟨.slice none 0 0, [], 0, rfl, rfl, h⟩ ⟨rfl, rfl, rfl, trivial⟩ (fun _ hw => hw.sel [1, 0] (by decide) rfl) ?_
     rintro m _ _ ⟨gv4, gl5, gx6, rfl, rfl, h⟩
     rcases m with _ | m
     · rw [m9_run_Edges_L1] at h; cases h
     rw [m9_run_Edges_L1] at h
     generalize hg1 : m9_run_Edges_L1 gl1 m = go1 at h
     rw [m9_run_Edges_L1B] at h
     refine W.seq (W.region (L.ite h rfl (Y.lss rfl rfl) (fun c7 h => ?_) (fun c7 h => ?_)))
     ·
      refine L.nil (E.thenN (W.seq (W.condT rfl ?_)))
      refine W.skip (E.thenN (W.seqJ (fun gs D => ∃ (gv7 : Value) (gl8 : (List TEdge)), gs = [(6, pt b6 0), (11, gv7), (60, .int .i64 gx6)] ∧ D = Cls w [] [.obj b6 ((gl1.map B).flatten) 87, .sl gv7 40 2 (gl8.map TEdge.row)] ∧ m9_run_Edges_K4 gx6 go1 gl8 = some r) ?_ ?_))
      ·
       refine W.block (W.seq (W.region (L.y rfl (Y.move rfl) ?_)))
       refine L.y rfl (Y.assign rfl) ?_
       refine L.nil (E.thenN (W.seq (W.region (L.y rfl (Y.move rfl) ?_))))
       refine L.nil (E.thenN (W.block (W.loopJ (fun m gs D => ∃ (gv9 : Value) (gl10 : (List TEdge)) (gx11 : Int), gs = [(6, pt b6 0), (11, gv9), (12, .int .i64 gx6), (60, .int .i64 gx6), (63, .int .i64 gx11)] ∧ D = Cls w [] [.obj b6 ((gl1.map B).flatten) 87, .sl gv9 40 2 (gl10.map TEdge.row)] ∧ m9_run_Edges_L2 gx6 gl1 go1 m gl10 gx11 = some r) ⟨gv4, gl5, 0, rfl, rfl, h⟩ ⟨rfl, rfl, rfl, rfl, rfl, trivial⟩ (fun _ hw => hw) ?_)))
       rintro m _ _ ⟨gv9, gl10, gx11, rfl, rfl, h⟩
       rcases m with _ | m
       · rw [m9_run_Edges_L2] at h; cases h
       rw [m9_run_Edges_L2] at h
       generalize hg2 : m9_run_Edges_L2 gx6 gl1 go1 m = go2 at h
       rw [m9_run_Edges_L2B] at h
       refine W.seq (W.region (L.ite h rfl (Y.lss rfl rfl) (fun c9 h => ?_) (fun c9 h => ?_)))
       ·
        refine L.nil (E.thenN (W.seq (W.condT rfl ?_)))
        refine W.skip (E.thenN (W.seq (W.block (W.seq (W.region (L.y rfl (Y.move rfl) ?_))))))
        refine L.y rfl (Y.assign rfl) ?_
        refine L.nil (E.thenN (W.seq (W.region (L.y rfl (Y.move rfl) ?_))))
        refine L.y rfl (Y.move rfl) ?_
        refine L.m (V := fun _ => pt b6 (0 + gx6.toNat * 12)) h rfl (Y.indexR Try.underlying87 sz85 rfl rfl) (fun x10 ex10 h => ?_)
        refine L.m (V := fun _ => pt b6 (0 + (gx6 * (12 : Nat) + gx11).toNat * 1)) h rfl (Y.index2 (a := gx6) (l := gl1) Try.underlying85 sz4 rfl rfl) (fun x11 ex11 h => ?_)
        refine L.iteB h rfl (Y.loadAr (q := 0) (row := B) (j := 0) (p := .bool x11) ag4 rfl rfl rfl (fun _ => rfl) (idx2_idx ex11) rfl) (fun c12 h => ?_) (fun c12 h => ?_)
        ·
         refine L.nil (E.thenN (W.condT rfl ?_))
         refine W.region (L.y rfl (Y.move rfl) ?_)
         refine L.y rfl (Y.move rfl) ?_
         refine L.y rfl (Y.move rfl) ?_
         refine L.y rfl (Y.build (cells := #[.int .i64 gx6, .int .i64 gx11]) rfl (by kernel_rfl)) ?_
         refine L.litAgg rfl Try.underlying25 el40 rfl rfl rfl ?_
         intro b13
         refine L.appM (i := 2) (g := TEdge.row) (l := gl10) (more := [(⟨gx6, gx11⟩ : TEdge)]) h rfl Try.underlying25 el40 rfl rfl rfl (fun w hw => As.at_ (hw.get (i := 0) rfl)) (plain_TEdge _) rfl ?_
         intro v14 l15 el15 h
         refine L.y rfl (Y.assign rfl) ?_
         refine L.nil (E.blockN (E.thenN (W.region (L.m (V := fun x16 => .int .i64 x16) h rfl (Y.addM rfl rfl) (fun x16 ex16 h => ?_)))))
         refine L.y rfl (Y.move rfl) ?_
         exact L.nil (E.againJ ⟨v14, l15, x16, rfl, rfl, by rw [hg2]; exact h⟩ (Nat.lt_succ_self _) ⟨rfl, rfl, rfl, rfl, rfl, trivial⟩ (fun _ hw => hw.sel [2, 0] (by decide) rfl))
        ·
         refine L.nil (E.thenN (W.condF rfl ?_))
         refine W.skip (E.blockN (E.thenN (W.region (L.m (V := fun x17 => .int .i64 x17) h rfl (Y.addM rfl rfl) (fun x17 ex17 h => ?_)))))
         refine L.y rfl (Y.move rfl) ?_
         exact L.nil (E.againJ ⟨gv9, gl10, x17, rfl, rfl, by rw [hg2]; exact h⟩ (Nat.lt_succ_self _) ⟨rfl, rfl, rfl, rfl, rfl, trivial⟩ (fun _ hw => hw))
       ·
        refine L.nil (E.thenN (W.seq (W.condF rfl ?_)))
        exact W.exit (E.thenX (E.KLX (E.blockX (E.blockN (E.joinJ ⟨gv9, gl10, rfl, rfl, h⟩ ⟨rfl, rfl, rfl, trivial⟩ (fun _ hw => hw))))))
      ·
       rintro _ _ ⟨gv7, gl8, rfl, rfl, h⟩
       rw [m9_run_Edges_K4] at h
       refine W.region (L.m (V := fun x8 => .int .i64 x8) h rfl (Y.addM rfl rfl) (fun x8 ex8 h => ?_))
       refine L.y rfl (Y.move rfl) ?_
       exact L.nil (E.againJ ⟨gv7, gl8, x8, rfl, rfl, by rw [hg1]; exact h⟩ (Nat.lt_succ_self _) ⟨rfl, rfl, rfl, trivial⟩ (fun _ hw => hw))
     ·
      refine L.nil (E.thenN (W.seq (W.condF rfl ?_)))
      exact W.exit (E.thenX (E.KLX (E.blockX (E.joinJ ⟨gv4, gl5, rfl, rfl, h⟩ ⟨rfl, trivial⟩ (fun _ hw => hw.sel [1] (by decide) rfl)))))
    ·
     rintro _ _ ⟨gv2, gl3, rfl, rfl, h⟩
     rw [m9_run_Edges_K3] at h
     refine W.seq (W.region (L.y rfl (Y.move rfl) ?_))
     refine L.y rfl (Y.assign rfl) ?_
     refine L.y rfl (Y.assign rfl) ?_
     refine L.nil (E.thenN (W.ret (E.ret2 rfl rfl rfl (fun w1 hw => ?_))))
     obtain rfl := Option.some.inj h
     exact ⟨_, _, rfl, ⟨_, rfl, rfl⟩, hw⟩
set_option maxRecDepth 100000 in
set_option maxHeartbeats 8000000 in
theorem w109_graph_Check (a0 : Int) (a1 : (List TEdge)) (u1 : Value) (w : World) (r : Int) (h : m109_graph_Check a0 a1 = some r) (hA1 : At w u1 2 (a1.map TEdge.row)) : Does Try.prog 109 [.int .i64 a0, u1] w fun u m => u = .int .i64 r ∧ m = [] := by
  rw [m109_graph_Check] at h
  refine body (n := 43) Try.func109 rfl rfl rfl (Cls.refl w) ?_
  refine W.seq (W.region (L.y rfl (Y.assign rfl) ?_))
  refine L.nil (E.thenN (W.seqJ (fun gs D => gs = [(0, .int .i64 a0), (1, u1)] ∧ D = Cls w [] [] ∧ m109_graph_Check_K1 a1 a0 = some r) ?_ ?_))
  ·
   refine W.seq (W.region (L.y rfl (Y.move rfl) ?_))
   refine L.ite h rfl (Y.lss rfl rfl) (fun c10 h => ?_) (fun c10 h => ?_)
   ·
    refine L.y rfl (Y.move rfl) ?_
    refine L.pass rfl rfl (by nofun) ?_
    refine L.pass rfl rfl (by nofun) ?_
    refine L.y rfl (Y.pickT rfl rfl) ?_
    refine L.nil (E.thenN (W.condT rfl ?_))
    refine W.seq (W.region (L.y rfl (Y.assign rfl) ?_))
    refine L.nil (E.thenN (W.ret (E.KSR (E.ret1 rfl rfl (fun w1 hw => ?_)))))
    obtain rfl := Option.some.inj h
    exact ⟨_, _, rfl, ⟨rfl, rfl⟩, hw⟩
   ·
    refine L.y rfl (Y.move rfl) ?_
    refine L.take rfl (L.y rfl (Y.move rfl) ?_)
    refine L.take rfl (L.ite h rfl (Y.gtr rfl rfl) (fun c11 h => ?_) (fun c11 h => ?_))
    ·
     refine L.y rfl (Y.pickF rfl rfl) ?_
     refine L.nil (E.thenN (W.condT rfl ?_))
     refine W.seq (W.region (L.y rfl (Y.assign rfl) ?_))
     refine L.nil (E.thenN (W.ret (E.KSR (E.ret1 rfl rfl (fun w1 hw => ?_)))))
     obtain rfl := Option.some.inj h
     exact ⟨_, _, rfl, ⟨rfl, rfl⟩, hw⟩
    ·
     refine L.y rfl (Y.pickF rfl rfl) ?_
     refine L.nil (E.thenN (W.condF rfl ?_))
     exact W.skip (E.joinJ ⟨rfl, rfl, h⟩ ⟨rfl, rfl, trivial⟩ (fun _ hw => hw))
  ·
   rintro _ _ ⟨rfl, rfl, h⟩
   rw [m109_graph_Check_K1] at h
   refine W.seqJ (fun gs D => gs = [(0, .int .i64 a0), (1, u1)] ∧ D = Cls w [] [] ∧ m109_graph_Check_K2 a1 a0 = some r) ?_ ?_
   ·
    refine W.seq (W.region (L.y rfl (Y.move rfl) ?_))
    refine L.y rfl (Y.lenM (g := TEdge.row) (l := a1) Try.underlying25 rfl (fun w' hw => hA1.cls0 hw)) ?_
    refine L.ite h rfl (Y.gtr rfl rfl) (fun c9 h => ?_) (fun c9 h => ?_)
    ·
     refine L.nil (E.thenN (W.condT rfl ?_))
     refine W.seq (W.region (L.y rfl (Y.assign rfl) ?_))
     refine L.nil (E.thenN (W.ret (E.KSR (E.ret1 rfl rfl (fun w1 hw => ?_)))))
     obtain rfl := Option.some.inj h
     exact ⟨_, _, rfl, ⟨rfl, rfl⟩, hw⟩
    ·
     refine L.nil (E.thenN (W.condF rfl ?_))
     exact W.skip (E.joinJ ⟨rfl, rfl, h⟩ ⟨rfl, rfl, trivial⟩ (fun _ hw => hw))
   ·
    rintro _ _ ⟨rfl, rfl, h⟩
    rw [m109_graph_Check_K2] at h
    refine W.seqJ (fun gs D => gs = [] ∧ D = Cls w [] [] ∧ m109_graph_Check_K3 = some r) ?_ ?_
    ·
     refine W.seq (W.region (L.y rfl (Y.move rfl) ?_))
     refine L.y rfl (Y.lenM (g := TEdge.row) (l := a1) Try.underlying25 rfl (fun w' hw => hA1.cls0 hw)) ?_
     refine L.y rfl (Y.move rfl) ?_
     refine L.nil (E.thenN (W.block (W.loopJ (fun m gs D => ∃ (gx1 : Int), gs = [(0, .int .i64 a0), (16, u1), (17, .int .i64 (a1.length : Int)), (18, .int .i64 gx1)] ∧ D = Cls w [] [] ∧ m109_graph_Check_L1 a1 a0 m gx1 = some r) ⟨0, rfl, rfl, h⟩ ⟨rfl, rfl, rfl, rfl, trivial⟩ (fun _ hw => hw) ?_)))
     rintro m _ _ ⟨gx1, rfl, rfl, h⟩
     rcases m with _ | m
     · rw [m109_graph_Check_L1] at h; cases h
     rw [m109_graph_Check_L1] at h
     generalize hg1 : m109_graph_Check_L1 a1 a0 m = go1 at h
     rw [m109_graph_Check_L1B] at h
     refine W.seq (W.region (L.ite h rfl (Y.lss rfl rfl) (fun c1 h => ?_) (fun c1 h => ?_)))
     ·
      refine L.nil (E.thenN (W.seq (W.condT rfl ?_)))
      refine W.skip (E.thenN (W.seq (W.block (W.seq (W.region (L.m (V := fun _ => el u1 (gx1.toNat * 2)) h rfl (Y.indexM (g := TEdge.row) (l := a1) Try.underlying25 sz40 rfl rfl (fun w' hw => hA1.cls0 hw)) (fun x2 ex2 h => ?_)))))))
      refine L.y rfl (Y.loadEN (r := [.int .i64 x2.From, .int .i64 x2.To]) ag40 sz40 rfl (fun w' hw => hA1.cls0 hw) (idx_map ex2) rfl) ?_
      refine L.alloc rfl ze40 ?_
      intro b3
      refine L.store (i := 0) sz40 rfl rfl rfl rfl (by simp [Value.oneCell', Value.cells, st]) rfl (Nat.le_of_ble_eq_true rfl) ?_
      refine L.nil (E.thenN (W.seq (W.region (L.cutJ 9 (fun gs D => ∃ (gb2 : Bool), gs = [(0, .int .i64 a0), (6, pt b3 0), (16, u1), (17, .int .i64 (a1.length : Int)), (18, .int .i64 gx1), (30, .bool gb2)] ∧ D = Cls w [] [.obj b3 [.int .i64 x2.From, .int .i64 x2.To] 40] ∧ m109_graph_Check_K4 x2 a0 gx1 go1 gb2 = some r) ?_ ?_))))
      ·
       refine L.y rfl (Y.fieldP fd40_0 rfl) ?_
       refine L.y rfl (Y.loadP (i := 0) ag3 rfl rfl rfl) ?_
       refine L.ite h rfl (Y.lss rfl rfl) (fun c7 h => ?_) (fun c7 h => ?_)
       ·
        refine L.y rfl (Y.move rfl) ?_
        refine L.pass rfl rfl (by nofun) ?_
        refine L.pass rfl rfl (by nofun) ?_
        refine L.pass rfl rfl (by nofun) ?_
        refine L.pass rfl rfl (by nofun) ?_
        refine L.y rfl (Y.pickT rfl rfl) ?_
        exact L.nil (E.joinJ ⟨true, rfl, rfl, h⟩ ⟨rfl, rfl, rfl, rfl, rfl, rfl, trivial⟩ (fun _ hw => hw))
       ·
        refine L.y rfl (Y.move rfl) ?_
        refine L.take rfl (L.y rfl (Y.fieldP fd40_0 rfl) ?_)
        refine L.take rfl (L.y rfl (Y.loadP (i := 0) ag3 rfl rfl rfl) ?_)
        refine L.take rfl (L.y rfl (Y.move rfl) ?_)
        refine L.take rfl (L.ite h rfl (Y.geq rfl rfl) (fun c8 h => ?_) (fun c8 h => ?_))
        ·
         refine L.y rfl (Y.pickF rfl rfl) ?_
         exact L.nil (E.joinJ ⟨true, rfl, rfl, h⟩ ⟨rfl, rfl, rfl, rfl, rfl, rfl, trivial⟩ (fun _ hw => hw))
        ·
         refine L.y rfl (Y.pickF rfl rfl) ?_
         exact L.nil (E.joinJ ⟨false, rfl, rfl, h⟩ ⟨rfl, rfl, rfl, rfl, rfl, rfl, trivial⟩ (fun _ hw => hw))
      ·
       rintro _ _ ⟨gb2, rfl, rfl, h⟩
       rw [m109_graph_Check_K4] at h
       rcases gb2 with _ | _
       ·
        replace h := iteF h
        refine L.y rfl (Y.move rfl) ?_
        refine L.take rfl (L.y rfl (Y.fieldP fd40_1 rfl) ?_)
        refine L.take rfl (L.y rfl (Y.loadP (i := 0) ag3 rfl rfl rfl) ?_)
        refine L.take rfl (L.ite h rfl (Y.lss rfl rfl) (fun c4 h => ?_) (fun c4 h => ?_))
        ·
         refine L.y rfl (Y.pickF rfl rfl) ?_
         refine L.y rfl (Y.move rfl) ?_
         refine L.pass rfl rfl (by nofun) ?_
         refine L.pass rfl rfl (by nofun) ?_
         refine L.pass rfl rfl (by nofun) ?_
         refine L.pass rfl rfl (by nofun) ?_
         refine L.y rfl (Y.pickT rfl rfl) ?_
         refine L.nil (E.thenN (W.condT rfl ?_))
         refine W.seq (W.region (L.y rfl (Y.assign rfl) ?_))
         refine L.nil (E.thenN (W.ret (E.blockR (E.thenR (E.KLR (E.blockR (E.KSR (E.ret1 rfl rfl (fun w1 hw => ?_)))))))))
         obtain rfl := Option.some.inj h
         exact ⟨_, _, rfl, ⟨rfl, rfl⟩, hw.sel [] (by decide) rfl⟩
        ·
         refine L.y rfl (Y.pickF rfl rfl) ?_
         refine L.y rfl (Y.move rfl) ?_
         refine L.take rfl (L.y rfl (Y.fieldP fd40_1 rfl) ?_)
         refine L.take rfl (L.y rfl (Y.loadP (i := 0) ag3 rfl rfl rfl) ?_)
         refine L.take rfl (L.y rfl (Y.move rfl) ?_)
         refine L.take rfl (L.ite h rfl (Y.geq rfl rfl) (fun c5 h => ?_) (fun c5 h => ?_))
         ·
          refine L.y rfl (Y.pickF rfl rfl) ?_
          refine L.nil (E.thenN (W.condT rfl ?_))
          refine W.seq (W.region (L.y rfl (Y.assign rfl) ?_))
          refine L.nil (E.thenN (W.ret (E.blockR (E.thenR (E.KLR (E.blockR (E.KSR (E.ret1 rfl rfl (fun w1 hw => ?_)))))))))
          obtain rfl := Option.some.inj h
          exact ⟨_, _, rfl, ⟨rfl, rfl⟩, hw.sel [] (by decide) rfl⟩
         ·
          refine L.y rfl (Y.pickF rfl rfl) ?_
          refine L.nil (E.thenN (W.condF rfl ?_))
          refine W.skip (E.blockN (E.thenN (W.region (L.m (V := fun x6 => .int .i64 x6) h rfl (Y.addM rfl rfl) (fun x6 ex6 h => ?_)))))
          refine L.y rfl (Y.move rfl) ?_
          exact L.nil (E.againJ ⟨x6, rfl, rfl, by rw [hg1]; exact h⟩ (Nat.lt_succ_self _) ⟨rfl, rfl, rfl, rfl, trivial⟩ (fun _ hw => hw.sel [] (by decide) rfl))
       ·
        replace h := iteT h
        refine L.y rfl (Y.move rfl) ?_
        refine L.pass rfl rfl (by nofun) ?_
        refine L.pass rfl rfl (by nofun) ?_
        refine L.pass rfl rfl (by nofun) ?_
        refine L.y rfl (Y.pickT rfl rfl) ?_
        refine L.y rfl (Y.move rfl) ?_
        refine L.pass rfl rfl (by nofun) ?_
        refine L.pass rfl rfl (by nofun) ?_
        refine L.pass rfl rfl (by nofun) ?_
        refine L.pass rfl rfl (by nofun) ?_
        refine L.y rfl (Y.pickT rfl rfl) ?_
        refine L.nil (E.thenN (W.condT rfl ?_))
        refine W.seq (W.region (L.y rfl (Y.assign rfl) ?_))
        refine L.nil (E.thenN (W.ret (E.blockR (E.thenR (E.KLR (E.blockR (E.KSR (E.ret1 rfl rfl (fun w1 hw => ?_)))))))))
        obtain rfl := Option.some.inj h
        exact ⟨_, _, rfl, ⟨rfl, rfl⟩, hw.sel [] (by decide) rfl⟩
     ·
      refine L.nil (E.thenN (W.seq (W.condF rfl ?_)))
      exact W.exit (E.thenX (E.KLX (E.blockX (E.joinJ ⟨rfl, rfl, h⟩ trivial (fun _ hw => hw)))))
    ·
     rintro _ _ ⟨rfl, rfl, h⟩
     rw [m109_graph_Check_K3] at h
     refine W.seq (W.region (L.y rfl (Y.assign rfl) ?_))
     refine L.nil (E.thenN (W.ret (E.ret1 rfl rfl (fun w1 hw => ?_))))
     obtain rfl := Option.some.inj h
     exact ⟨_, _, rfl, ⟨rfl, rfl⟩, hw⟩
set_option maxRecDepth 100000 in
set_option maxHeartbeats 8000000 in
theorem w110_graph_next (a0 : Int) (a1 : (List TEdge)) (u1 : Value) (w : World) (r : (List (List Int))) (h : m110_graph_next a0 a1 = some r) (hA1 : At w u1 2 (a1.map TEdge.row)) : Does Try.prog 110 [.int .i64 a0, u1] w fun u m => ∃ v0 q0, u = v0 ∧ m = [.sl v0 28 1 (zr svRow q0 r), .ss (zs (svSd 3 1 I) q0 r)] := by
  rw [m110_graph_next] at h
  refine body (n := 51) Try.func110 rfl rfl rfl (Cls.refl w) ?_
  refine W.seq (W.region (L.y rfl (Y.assign rfl) ?_))
  refine L.nil (E.thenN (W.seq (W.region (L.y rfl (Y.move rfl) ?_))))
  obtain ⟨l1, el1, h⟩ := bind1S h
  refine L.makeZ (row := svRow) (sds := (svSd 3 1 I)) (nv := [nilV]) (z0 := ([] : (List Int))) el1 rfl Try.underlying45 el28 ze28 rfl rfl rfl (gall1 rfl rfl gall0) ?_
  intro b2
  refine L.y rfl (Y.assign rfl) ?_
  refine L.nil (E.thenN (W.seqJ (fun gs D => ∃ (gl1 : (List (List Int))) (gq2 : Nat → List Value), gs = [(5, (sv b2 a0.toNat))] ∧ D = Cls w [] [.sl (sv b2 a0.toNat) 28 1 (zr svRow gq2 gl1), .ss (zs (svSd 3 1 I) gq2 gl1)] ∧ m110_graph_next_K1 gl1 = some r) ?_ ?_))
  ·
   refine W.seq (W.region (L.y rfl (Y.move rfl) ?_))
   refine L.y rfl (Y.lenM (g := TEdge.row) (l := a1) Try.underlying25 rfl (fun w' hw => hA1.cls0 hw)) ?_
   refine L.y rfl (Y.move rfl) ?_
   refine L.nil (E.thenN (W.block (W.loopJ (fun m gs D => ∃ (gl8 : (List (List Int))) (gq9 : Nat → List Value) (gx10 : Int), gs = [(5, (sv b2 a0.toNat)), (11, u1), (12, .int .i64 (a1.length : Int)), (13, .int .i64 gx10)] ∧ D = Cls w [] [.sl (sv b2 a0.toNat) 28 1 (zr svRow gq9 gl8), .ss (zs (svSd 3 1 I) gq9 gl8)] ∧ m110_graph_next_L2 a1 m gl8 gx10 = some r) ⟨l1, (fun _ => [nilV]), 0, rfl, rfl, h⟩ ⟨rfl, rfl, rfl, rfl, trivial⟩ (fun _ hw => hw) ?_)))
   rintro m _ _ ⟨gl8, gq9, gx10, rfl, rfl, h⟩
   rcases m with _ | m
   · rw [m110_graph_next_L2] at h; cases h
   rw [m110_graph_next_L2] at h
   generalize hg2 : m110_graph_next_L2 a1 m = go2 at h
   rw [m110_graph_next_L2B] at h
   refine W.seq (W.region (L.ite h rfl (Y.lss rfl rfl) (fun c14 h => ?_) (fun c14 h => ?_)))
   ·
    refine L.nil (E.thenN (W.seq (W.condT rfl ?_)))
    refine W.skip (E.thenN (W.seq (W.block (W.seq (W.region (L.m (V := fun _ => el u1 (gx10.toNat * 2)) h rfl (Y.indexM (g := TEdge.row) (l := a1) Try.underlying25 sz40 rfl rfl (fun w' hw => hA1.cls0 hw)) (fun x15 ex15 h => ?_)))))))
    refine L.y rfl (Y.loadEN (r := [.int .i64 x15.From, .int .i64 x15.To]) ag40 sz40 rfl (fun w' hw => hA1.cls0 hw) (idx_map ex15) rfl) ?_
    refine L.alloc rfl ze40 ?_
    intro b16
    refine L.store (i := 0) sz40 rfl rfl rfl rfl (by simp [Value.oneCell', Value.cells, st]) rfl (Nat.le_of_ble_eq_true rfl) ?_
    refine L.nil (E.thenN (W.drawn2 (k := 14) (stC [[11, 13], [13]] [Cls w [] [.obj b16 [.int .i64 x15.From, .int .i64 x15.To] 40, .sl (sv b2 a0.toNat) 28 1 (zr svRow gq9 gl8), .ss (zs (svSd 3 1 I) gq9 gl8)], Cls w [] [.obj b16 [.int .i64 x15.From, .int .i64 x15.To] 40, .sl (sv b2 a0.toNat) 28 1 (zr svRow gq9 gl8)]] (Cls w [] [.obj b16 [.int .i64 x15.From, .int .i64 x15.To] 40])) rfl mixed (fun _ hw => hw.drew) (Sc.now (by kernel_rfl) (fun _ hw => hw)) ?_))
    refine V2.y (i := 0) (Nx2.of (Z := Cls w [] [.obj b16 [.int .i64 x15.From, .int .i64 x15.To] 40]) [] (by kernel_rfl) rfl (Zc.on (fun _ hw => hw.sel [0] (by decide) rfl) (Zc.on (fun _ hw => hw.sel [0] (by decide) rfl) (Zc.fin (fun _ hw => hw))))) rfl rfl rfl (Y.move rfl) ?_
    refine V2.y (i := 1) (Nx2.of (Z := Cls w [] [.obj b16 [.int .i64 x15.From, .int .i64 x15.To] 40]) [] (by kernel_rfl) rfl (Zc.on (fun _ hw => hw.sel [0] (by decide) rfl) (Zc.on (fun _ hw => hw.sel [0] (by decide) rfl) (Zc.fin (fun _ hw => hw))))) rfl rfl rfl (Y.fieldP fd40_0 rfl) ?_
    refine V2.y (i := 2) (Nx2.of (Z := Cls w [] [.obj b16 [.int .i64 x15.From, .int .i64 x15.To] 40]) [] (by kernel_rfl) rfl (Zc.on (fun _ hw => hw.sel [0] (by decide) rfl) (Zc.on (fun _ hw => hw.sel [0] (by decide) rfl) (Zc.fin (fun _ hw => hw))))) rfl rfl rfl (Y.loadP (i := 0) ag3 rfl rfl rfl) ?_
    refine V2.y (i := 3) (Nx2.of (Z := Cls w [] [.obj b16 [.int .i64 x15.From, .int .i64 x15.To] 40]) [] (by kernel_rfl) rfl (Zc.on (fun _ hw => hw.sel [0] (by decide) rfl) (Zc.on (fun _ hw => hw.sel [0] (by decide) rfl) (Zc.fin (fun _ hw => hw))))) rfl rfl rfl (Y.move rfl) ?_
    refine V2.y (i := 4) (Nx2.of (Z := Cls w [] [.obj b16 [.int .i64 x15.From, .int .i64 x15.To] 40]) [] (by kernel_rfl) rfl (Zc.on (fun _ hw => hw.sel [0] (by decide) rfl) (Zc.on (fun _ hw => hw.sel [0] (by decide) rfl) (Zc.fin (fun _ hw => hw))))) rfl rfl rfl (Y.fieldP fd40_0 rfl) ?_
    refine V2.y (i := 5) (Nx2.of (Z := Cls w [] [.obj b16 [.int .i64 x15.From, .int .i64 x15.To] 40]) [] (by kernel_rfl) rfl (Zc.on (fun _ hw => hw.sel [0] (by decide) rfl) (Zc.on (fun _ hw => hw.sel [0] (by decide) rfl) (Zc.fin (fun _ hw => hw))))) rfl rfl rfl (Y.loadP (i := 0) ag3 rfl rfl rfl) ?_
    refine V2.m (i := 6) (V' := fun _ => el (sv b2 a0.toNat) (x15.From.toNat * 1)) h (Nx2.of (Z := Cls w [] [.obj b16 [.int .i64 x15.From, .int .i64 x15.To] 40, .sl (sv b2 a0.toNat) 28 1 (zr svRow gq9 gl8)]) [13] (by kernel_rfl) rfl (Zc.on (fun _ hw => hw.sel [0, 1] (by decide) rfl) (Zc.at1 (fun _ hw => hw)))) rfl rfl rfl (Y.indexMZ (row := svRow) (vs := gq9) (l := gl8) Try.underlying45 sz28 rfl rfl (fun w hw => As.at_ (hw.get (i := 1) rfl))) (fun x35 ex35 h => ?_)
    refine V2.y (i := 7) (Nx2.of (Z := Cls w [] [.obj b16 [.int .i64 x15.From, .int .i64 x15.To] 40, .sl (sv b2 a0.toNat) 28 1 (zr svRow gq9 gl8)]) [13] (by kernel_rfl) rfl (Zc.on (fun _ hw => hw.sel [0, 1] (by decide) rfl) (Zc.at1 (fun _ hw => hw)))) rfl rfl rfl (Y.loadE1 (u := gv (gq9 x15.From.toNat) 0) ag28 rfl (fun w hw => As.at_ (hw.get (i := 1) rfl)) (zr_idx (vs := gq9) ex35)) ?_
    refine V2.y (i := 8) (Nx2.of (Z := Cls w [] [.obj b16 [.int .i64 x15.From, .int .i64 x15.To] 40]) [] (by kernel_rfl) rfl (Zc.on (fun _ hw => hw.sel [0] (by decide) rfl) (Zc.on (fun _ hw => hw.sel [0] (by decide) rfl) (Zc.fin (fun _ hw => hw))))) rfl rfl rfl (Y.fieldP fd40_1 rfl) ?_
    refine V2.y (i := 9) (Nx2.of (Z := Cls w [] [.obj b16 [.int .i64 x15.From, .int .i64 x15.To] 40]) [] (by kernel_rfl) rfl (Zc.on (fun _ hw => hw.sel [0] (by decide) rfl) (Zc.on (fun _ hw => hw.sel [0] (by decide) rfl) (Zc.fin (fun _ hw => hw))))) rfl rfl rfl (Y.loadP (i := 0) ag3 rfl rfl rfl) ?_
    refine V2.eff (i := 10) (by kernel_rfl) rfl ?_
    refine L.litOne rfl Try.underlying28 el3 rfl rfl ?_
    intro b36
    refine L.nil (E.toV2 (stC [[11, 13], [13]] [Cls w [] [.sl (sv b36 1) 3 1 (([x15.To]).map I), .obj b16 [.int .i64 x15.From, .int .i64 x15.To] 40, .sl (sv b2 a0.toNat) 28 1 (zr svRow gq9 gl8), .ss (zs (svSd 3 1 I) gq9 gl8)], Cls w [] [.sl (sv b36 1) 3 1 (([x15.To]).map I), .obj b16 [.int .i64 x15.From, .int .i64 x15.To] 40, .sl (sv b2 a0.toNat) 28 1 (zr svRow gq9 gl8)]] (Cls w [] [.sl (sv b36 1) 3 1 (([x15.To]).map I), .obj b16 [.int .i64 x15.From, .int .i64 x15.To] 40])) 10 (by kernel_rfl) (Sc.stay (fun _ hw => hw.sel [1, 2, 3] (by decide) rfl) (Sc.stay (fun _ hw => hw.sel [1, 2] (by decide) rfl) (Sc.stayD (fun _ hw => hw.sel [1] (by decide) rfl)))) (Sc.now (by kernel_rfl) (fun _ hw => hw)) ?_)
    refine V2.eff (i := 11) (by kernel_rfl) rfl ?_
    refine L.ssOut (sds := (svSd 3 1 I)) (vs := gq9) (s := 3) (j := 0) (c := 1) rfl (fun _ _ => rfl) ex35 rfl ?_
    refine L.appM (i := 0) (g := I) (l := x35) (more := [x15.To]) h rfl Try.underlying28 el3 rfl rfl rfl (fun w hw => As.at_ (hw.get (i := 1) rfl)) (plain_ints _) rfl ?_
    intro v37 l38 el38 h
    refine L.nil (E.toV2 (stC [[13]] [Cls w [] [.sl v37 3 1 (l38.map I), .sl (sv b36 1) 3 1 (([x15.To]).map I), .obj b16 [.int .i64 x15.From, .int .i64 x15.To] 40, .sl (sv b2 a0.toNat) 28 1 (zr svRow gq9 gl8)]] (Cls w [] [.sl (sv b36 1) 3 1 (([x15.To]).map I), .obj b16 [.int .i64 x15.From, .int .i64 x15.To] 40])) 11 (by kernel_rfl) (Sc.past rfl (Sc.stay (fun _ hw => hw.sel [1, 2, 3] (by decide) rfl) (Sc.stayD (fun _ hw => hw)))) (Sc.now (by kernel_rfl) (fun _ hw => hw.sel [0, 1, 2, 3] (by decide) rfl)) ?_)
    refine V2.m (i := 12) (V' := fun _ => el (sv b2 a0.toNat) (x15.From.toNat * 1)) h (Nx2.of (Z := Cls w [] [.sl v37 3 1 (l38.map I), .sl (sv b36 1) 3 1 (([x15.To]).map I), .obj b16 [.int .i64 x15.From, .int .i64 x15.To] 40, .sl (sv b2 a0.toNat) 28 1 (zr svRow gq9 gl8)]) [13] (by kernel_rfl) rfl (Zc.at1 (fun _ hw => hw))) rfl rfl rfl (Y.indexMZ (row := svRow) (vs := gq9) (l := gl8) Try.underlying45 sz28 rfl rfl (fun w hw => As.at_ (hw.get (i := 3) rfl))) (fun x39 ex39 h => ?_)
    refine V2.eff (i := 13) (by kernel_rfl) rfl ?_
    refine L.storeSlZS (row := svRow) (sds := (svSd 3 1 I)) (vs := gq9) (q := 3) (p := 0) (s := 4) (c := 1) (jj := 0) (u1 := l38) (v1 := [v37]) (j := 0) h sz28 rfl rfl rfl rfl rfl rfl (.inr rfl) (fun _ _ => rfl) (fun _ _ => rfl) ex39 rfl rfl rfl rfl (by decide) ?_
    intro l40 q41 el40 h
    refine L.nil (E.toV2 (stC [] [] (Cls w [] [.sl (sv b36 1) 3 1 (([x15.To]).map I), .obj b16 [.int .i64 x15.From, .int .i64 x15.To] 40])) 13 (by kernel_rfl) (Sc.past rfl (Sc.stayD (fun _ hw => hw))) (Sc.atD (fun _ hw => hw.sel [0, 1] (by decide) rfl)) ?_)
    refine V2.done (by kernel_rfl) ?_
    refine E.blockN (E.thenN (W.region (L.m (V := fun x42 => .int .i64 x42) h rfl (Y.addM rfl rfl) (fun x42 ex42 h => ?_))))
    refine L.y rfl (Y.move rfl) ?_
    exact L.nil (E.againJ ⟨l40, q41, x42, rfl, rfl, by rw [hg2]; exact h⟩ (Nat.lt_succ_self _) ⟨rfl, rfl, rfl, rfl, trivial⟩ (fun _ hw => hw.sel [2, 3] (by decide) rfl))
   ·
    refine L.nil (E.thenN (W.seq (W.condF rfl ?_)))
    exact W.exit (E.thenX (E.KLX (E.blockX (E.joinJ ⟨gl8, gq9, rfl, rfl, h⟩ ⟨rfl, trivial⟩ (fun _ hw => hw)))))
  ·
   rintro _ _ ⟨gl1, gq2, rfl, rfl, h⟩
   rw [m110_graph_next_K1] at h
   refine W.seqJ (fun gs D => ∃ (gl3 : (List (List Int))) (gq4 : Nat → List Value), gs = [(5, (sv b2 a0.toNat))] ∧ D = Cls w [] [.sl (sv b2 a0.toNat) 28 1 (zr svRow gq4 gl3), .ss (zs (svSd 3 1 I) gq4 gl3)] ∧ m110_graph_next_K2 gl3 = some r) ?_ ?_
   ·
    refine W.seq (W.region (L.y rfl (Y.move rfl) ?_))
    refine L.y rfl (Y.lenMZ (row := svRow) (vs := gq2) (l := gl1) Try.underlying45 rfl (fun w hw => As.at_ (hw.get (i := 0) rfl))) ?_
    refine L.y rfl (Y.move rfl) ?_
    refine L.nil (E.thenN (W.block (W.loopJ (fun m gs D => ∃ (gl5 : (List (List Int))) (gq6 : Nat → List Value) (gx7 : Int), gs = [(5, (sv b2 a0.toNat)), (32, .int .i64 (gl1.length : Int)), (33, .int .i64 gx7)] ∧ D = Cls w [] [.sl (sv b2 a0.toNat) 28 1 (zr svRow gq6 gl5), .ss (zs (svSd 3 1 I) gq6 gl5)] ∧ m110_graph_next_L1 gl1 m gl5 gx7 = some r) ⟨gl1, gq2, 0, rfl, rfl, h⟩ ⟨rfl, rfl, rfl, trivial⟩ (fun _ hw => hw) ?_)))
    rintro m _ _ ⟨gl5, gq6, gx7, rfl, rfl, h⟩
    rcases m with _ | m
    · rw [m110_graph_next_L1] at h; cases h
    rw [m110_graph_next_L1] at h
    generalize hg1 : m110_graph_next_L1 gl1 m = go1 at h
    rw [m110_graph_next_L1B] at h
    refine W.seq (W.region (L.ite h rfl (Y.lss rfl rfl) (fun c3 h => ?_) (fun c3 h => ?_)))
    ·
     refine L.nil (E.thenN (W.seq (W.condT rfl ?_)))
     refine W.skip (E.thenN (W.seq (W.block (W.seq (W.region (L.y rfl (Y.move rfl) ?_))))))
     refine L.y rfl (Y.assign rfl) ?_
     refine L.nil (E.thenN (W.seq (W.region (L.y rfl (Y.move rfl) ?_))))
     refine L.y rfl (Y.move rfl) ?_
     refine L.m (V := fun _ => el (sv b2 a0.toNat) (gx7.toNat * 1)) h rfl (Y.indexMZ (row := svRow) (vs := gq6) (l := gl5) Try.underlying45 sz28 rfl rfl (fun w hw => As.at_ (hw.get (i := 0) rfl))) (fun x4 ex4 h => ?_)
     refine L.y rfl (Y.loadE1 (u := gv (gq6 gx7.toNat) 0) ag28 rfl (fun w hw => As.at_ (hw.get (i := 0) rfl)) (zr_idx (vs := gq6) ex4)) ?_
     refine L.ssOut (sds := (svSd 3 1 I)) (vs := gq6) (s := 1) (j := 0) (c := 1) rfl (fun _ _ => rfl) ex4 rfl ?_
     refine L.sortMD (i := 0) (l := x4) h wSort rfl en130 rfl rfl ?_
     intro l5 el5 h
     refine L.ssBack (row := svRow) (sds := (svSd 3 1 I)) (vs := gq6) (p := 0) (s := 2) (q := 1) (c := 1) (jj := 0) (u1 := l5) (fun z => .sl (sv b2 a0.toNat) 28 1 z) h rfl rfl rfl (fun _ _ => rfl) ex4 rfl rfl rfl ?_
     intro l6 el6 h
     refine L.nil (E.thenN (W.region (L.y rfl (Y.move rfl) ?_)))
     refine L.y rfl (Y.move rfl) ?_
     refine L.y rfl (Y.move rfl) ?_
     refine L.y rfl (Y.move rfl) ?_
     refine L.m (V := fun _ => el (sv b2 a0.toNat) (gx7.toNat * 1)) h rfl (Y.indexMZ (row := svRow) (vs := gq6) (l := l6) Try.underlying45 sz28 rfl rfl (fun w hw => As.at_ (hw.get (i := 0) rfl))) (fun x7 ex7 h => ?_)
     refine L.y rfl (Y.loadE1 (u := gv (gq6 gx7.toNat) 0) ag28 rfl (fun w hw => As.at_ (hw.get (i := 0) rfl)) (zr_idx (vs := gq6) ex7)) ?_
     refine L.ssOut (sds := (svSd 3 1 I)) (vs := gq6) (s := 1) (j := 0) (c := 1) rfl (fun _ _ => rfl) ex7 rfl ?_
     refine L.compactMD (i := 0) (l := x7) h wCompact rfl en131 rfl rfl ?_
     intro v9 l8 el8 h
     refine L.m (V := fun _ => el (sv b2 a0.toNat) (gx7.toNat * 1)) h rfl (Y.indexMZ (row := svRow) (vs := gq6) (l := l6) Try.underlying45 sz28 rfl rfl (fun w hw => As.at_ (hw.get (i := 1) rfl))) (fun x10 ex10 h => ?_)
     refine L.storeSlZS (row := svRow) (sds := (svSd 3 1 I)) (vs := gq6) (q := 1) (p := 0) (s := 2) (c := 1) (jj := 0) (u1 := l8) (v1 := [v9]) (j := 0) h sz28 rfl rfl rfl rfl rfl rfl (.inr rfl) (fun _ _ => rfl) (fun _ _ => rfl) ex10 rfl rfl rfl rfl (by decide) ?_
     intro l11 q12 el11 h
     refine L.nil (E.blockN (E.thenN (W.region (L.m (V := fun x13 => .int .i64 x13) h rfl (Y.addM rfl rfl) (fun x13 ex13 h => ?_)))))
     refine L.y rfl (Y.move rfl) ?_
     exact L.nil (E.againJ ⟨l11, q12, x13, rfl, rfl, by rw [hg1]; exact h⟩ (Nat.lt_succ_self _) ⟨rfl, rfl, rfl, trivial⟩ (fun _ hw => hw))
    ·
     refine L.nil (E.thenN (W.seq (W.condF rfl ?_)))
     exact W.exit (E.thenX (E.KLX (E.blockX (E.joinJ ⟨gl5, gq6, rfl, rfl, h⟩ ⟨rfl, trivial⟩ (fun _ hw => hw)))))
   ·
    rintro _ _ ⟨gl3, gq4, rfl, rfl, h⟩
    rw [m110_graph_next_K2] at h
    refine W.seq (W.region (L.y rfl (Y.move rfl) ?_))
    refine L.y rfl (Y.assign rfl) ?_
    refine L.nil (E.thenN (W.ret (E.ret1 rfl rfl (fun w1 hw => ?_))))
    obtain rfl := Option.some.inj h
    exact ⟨_, _, rfl, ⟨_, _, rfl, rfl⟩, hw⟩
set_option maxRecDepth 100000 in
set_option maxHeartbeats 8000000 in
theorem w56_slices_Index_int (a0 : (List Int)) (a1 : Int) (u0 : Value) (w : World) (r : Int) (h : m56_slices_Index_int a0 a1 = some r) (hA0 : At w u0 1 (a0.map I)) : Does Try.prog 56 [u0, .int .i64 a1] w fun u m => u = .int .i64 r ∧ m = [] := by
  rw [m56_slices_Index_int] at h
  refine body (n := 19) Try.func56 rfl rfl rfl (Cls.refl w) ?_
  refine W.seq (W.region (L.y rfl (Y.assign rfl) ?_))
  refine L.nil (E.thenN (W.seqJ (fun gs D => gs = [] ∧ D = Cls w [] [] ∧ m56_slices_Index_int_K1 = some r) ?_ ?_))
  ·
   refine W.seq (W.region (L.y rfl (Y.move rfl) ?_))
   refine L.y rfl (Y.lenM (g := I) (l := a0) Try.underlying28 rfl (fun w' hw => hA0.cls0 hw)) ?_
   refine L.y rfl (Y.move rfl) ?_
   refine L.nil (E.thenN (W.block (W.loopJ (fun m gs D => ∃ (gx1 : Int), gs = [(0, u0), (1, .int .i64 a1), (7, .int .i64 (a0.length : Int)), (8, .int .i64 gx1)] ∧ D = Cls w [] [] ∧ m56_slices_Index_int_L1 a0 a1 m gx1 = some r) ⟨0, rfl, rfl, h⟩ ⟨rfl, rfl, rfl, rfl, trivial⟩ (fun _ hw => hw) ?_)))
   rintro m _ _ ⟨gx1, rfl, rfl, h⟩
   rcases m with _ | m
   · rw [m56_slices_Index_int_L1] at h; cases h
   rw [m56_slices_Index_int_L1] at h
   generalize hg1 : m56_slices_Index_int_L1 a0 a1 m = go1 at h
   rw [m56_slices_Index_int_L1B] at h
   refine W.seq (W.region (L.ite h rfl (Y.lss rfl rfl) (fun c1 h => ?_) (fun c1 h => ?_)))
   ·
    refine L.nil (E.thenN (W.seq (W.condT rfl ?_)))
    refine W.skip (E.thenN (W.seq (W.block (W.seq (W.region (L.y rfl (Y.move rfl) ?_))))))
    refine L.y rfl (Y.assign rfl) ?_
    refine L.nil (E.thenN (W.seq (W.region (L.y rfl (Y.move rfl) ?_))))
    refine L.y rfl (Y.move rfl) ?_
    refine L.y rfl (Y.move rfl) ?_
    refine L.m (V := fun _ => el u0 (gx1.toNat * 1)) h rfl (Y.indexM (g := I) (l := a0) Try.underlying28 sz3 rfl rfl (fun w' hw => hA0.cls0 hw)) (fun x2 ex2 h => ?_)
    refine L.y rfl (Y.loadE1 (u := .int .i64 x2) ag3 rfl (fun w' hw => hA0.cls0 hw) (idx_map ex2)) ?_
    refine L.ite h rfl (Y.eql rfl rfl) (fun c3 h => ?_) (fun c3 h => ?_)
    ·
     refine L.nil (E.thenN (W.condT rfl ?_))
     refine W.seq (W.region (L.y rfl (Y.move rfl) ?_))
     refine L.y rfl (Y.assign rfl) ?_
     refine L.nil (E.thenN (W.ret (E.blockR (E.thenR (E.KLR (E.blockR (E.KSR (E.ret1 rfl rfl (fun w1 hw => ?_)))))))))
     obtain rfl := Option.some.inj h
     exact ⟨_, _, rfl, ⟨rfl, rfl⟩, hw⟩
    ·
     refine L.nil (E.thenN (W.condF rfl ?_))
     refine W.skip (E.blockN (E.thenN (W.region (L.m (V := fun x4 => .int .i64 x4) h rfl (Y.addM rfl rfl) (fun x4 ex4 h => ?_)))))
     refine L.y rfl (Y.move rfl) ?_
     exact L.nil (E.againJ ⟨x4, rfl, rfl, by rw [hg1]; exact h⟩ (Nat.lt_succ_self _) ⟨rfl, rfl, rfl, rfl, trivial⟩ (fun _ hw => hw))
   ·
    refine L.nil (E.thenN (W.seq (W.condF rfl ?_)))
    exact W.exit (E.thenX (E.KLX (E.blockX (E.joinJ ⟨rfl, rfl, h⟩ trivial (fun _ hw => hw)))))
  ·
   rintro _ _ ⟨rfl, rfl, h⟩
   rw [m56_slices_Index_int_K1] at h
   refine W.seq (W.region (L.y rfl (Y.assign rfl) ?_))
   refine L.nil (E.thenN (W.ret (E.ret1 rfl rfl (fun w1 hw => ?_))))
   obtain rfl := Option.some.inj h
   exact ⟨_, _, rfl, ⟨rfl, rfl⟩, hw⟩
set_option maxRecDepth 100000 in
set_option maxHeartbeats 8000000 in
theorem w42_graph_Order (a0 : Int) (a1 : (List TEdge)) (u1 : Value) (w : World) (r : ((List Int) × Int)) (h : m42_graph_Order a0 a1 = some r) (hA1 : At w u1 2 (a1.map TEdge.row)) : Does Try.prog 42 [.int .i64 a0, u1] w fun u m => ∃ v0, u = .tuple #[v0, .int .i64 r.2] ∧ m = [.sl v0 3 1 (r.1.map I)] := by
  rw [m42_graph_Order] at h
  refine body (n := 80) Try.func42 rfl rfl rfl (Cls.refl w) ?_
  refine W.seq (W.region (L.y rfl (Y.assign rfl) ?_))
  refine L.y rfl (Y.assign rfl) ?_
  refine L.nil (E.thenN (W.seqJ (fun gs D => gs = [(0, .int .i64 a0), (1, u1)] ∧ D = Cls w [] [] ∧ m42_graph_Order_K1 a0 a1 = some r) ?_ ?_))
  ·
   refine W.seq (W.region (L.y rfl (Y.move rfl) ?_))
   refine L.y rfl (Y.move rfl) ?_
   obtain ⟨x34, e35, h⟩ := bind1S h
   refine L.y rfl (Y.does en109 rfl (fun w' hw => (w109_graph_Check a0 a1 u1 w' _ e35 (hA1.cls0 hw)).mono (fun _ _ h => h.1))) ?_
   refine L.y rfl (Y.assign rfl) ?_
   refine L.nil (E.thenN (W.seq (W.region (L.y rfl (Y.move rfl) ?_))))
   refine L.ite h rfl (Y.neq rfl rfl) (fun c36 h => ?_) (fun c36 h => ?_)
   ·
    refine L.nil (E.thenN (W.condT rfl ?_))
    refine W.seq (W.region (L.y rfl (Y.move rfl) ?_))
    refine L.y rfl (Y.assign rfl) ?_
    refine L.y rfl (Y.assign rfl) ?_
    refine L.nil (E.thenN (W.ret (E.KSR (E.ret2 rfl rfl rfl (fun w1 hw => ?_)))))
    obtain rfl := Option.some.inj h
    exact ⟨_, _, rfl, ⟨_, rfl, rfl⟩, (hw.nilSl 3 1)⟩
   ·
    refine L.nil (E.thenN (W.condF rfl ?_))
    exact W.skip (E.joinJ ⟨rfl, rfl, h⟩ ⟨rfl, rfl, trivial⟩ (fun _ hw => hw))
  ·
   rintro _ _ ⟨rfl, rfl, h⟩
   rw [m42_graph_Order_K1] at h
   refine W.seq (W.region (L.y rfl (Y.move rfl) ?_))
   refine L.y rfl (Y.move rfl) ?_
   obtain ⟨l1, e4, h⟩ := bind1S h
   refine L.does rfl en110 rfl (fun w' hw => w110_graph_next a0 a1 u1 w' _ e4 (hA1.cls0 hw)) ?_
   rintro v2 _ ⟨_, q3, rfl, rfl⟩
   refine L.y rfl (Y.assign rfl) ?_
   refine L.nil (E.thenN (W.seq (W.region (L.y rfl (Y.move rfl) ?_))))
   obtain ⟨l5, el5, h⟩ := bind1S h
   refine L.makeE (row := I) (z0 := 0) el5 rfl Try.underlying28 el3 ze3 rfl rfl rfl ?_
   intro b6
   refine L.y rfl (Y.assign rfl) ?_
   refine L.nil (E.thenN (W.seqJ (fun gs D => ∃ (gl1 : (List Int)), gs = [(0, .int .i64 a0), (7, v2), (8, (sv b6 a0.toNat))] ∧ D = Cls w [] [.sl v2 28 1 (zr svRow q3 l1), .ss (zs (svSd 3 1 I) q3 l1), .sl (sv b6 a0.toNat) 3 1 (gl1.map I)] ∧ m42_graph_Order_K2 a0 l1 gl1 = some r) ?_ ?_))
   ·
    refine W.seq (W.region (L.y rfl (Y.move rfl) ?_))
    refine L.y rfl (Y.lenMZ (row := svRow) (vs := q3) (l := l1) Try.underlying45 rfl (fun w hw => As.at_ (hw.get (i := 1) rfl))) ?_
    refine L.y rfl (Y.move rfl) ?_
    refine L.nil (E.thenN (W.block (W.loopJ (fun m gs D => ∃ (gl10 : (List Int)) (gx11 : Int), gs = [(0, .int .i64 a0), (7, v2), (8, (sv b6 a0.toNat)), (28, v2), (29, .int .i64 (l1.length : Int)), (30, .int .i64 gx11)] ∧ D = Cls w [] [.sl v2 28 1 (zr svRow q3 l1), .ss (zs (svSd 3 1 I) q3 l1), .sl (sv b6 a0.toNat) 3 1 (gl10.map I)] ∧ m42_graph_Order_L3 l1 a0 m gl10 gx11 = some r) ⟨l5, 0, rfl, rfl, h⟩ ⟨rfl, rfl, rfl, rfl, rfl, rfl, trivial⟩ (fun _ hw => hw.sel [1, 2, 0] (by decide) rfl) ?_)))
    rintro m _ _ ⟨gl10, gx11, rfl, rfl, h⟩
    rcases m with _ | m
    · rw [m42_graph_Order_L3] at h; cases h
    rw [m42_graph_Order_L3] at h
    generalize hg3 : m42_graph_Order_L3 l1 a0 m = go3 at h
    rw [m42_graph_Order_L3B] at h
    refine W.seq (W.region (L.ite h rfl (Y.lss rfl rfl) (fun c24 h => ?_) (fun c24 h => ?_)))
    ·
     refine L.nil (E.thenN (W.seq (W.condT rfl ?_)))
     refine W.skip (E.thenN (W.seqJ (fun gs D => ∃ (gl12 : (List Int)), gs = [(0, .int .i64 a0), (7, v2), (8, (sv b6 a0.toNat)), (28, v2), (29, .int .i64 (l1.length : Int)), (30, .int .i64 gx11)] ∧ D = Cls w [] [.sl v2 28 1 (zr svRow q3 l1), .ss (zs (svSd 3 1 I) q3 l1), .sl (sv b6 a0.toNat) 3 1 (gl12.map I)] ∧ m42_graph_Order_K7 gx11 go3 gl12 = some r) ?_ ?_))
     ·
      refine W.block (W.seq (W.region (L.m (V := fun _ => el v2 (gx11.toNat * 1)) h rfl (Y.indexMZ (row := svRow) (vs := q3) (l := l1) Try.underlying45 sz28 rfl rfl (fun w hw => As.at_ (hw.get (i := 0) rfl))) (fun x26 ex26 h => ?_))))
      refine L.y rfl (Y.loadE1 (u := gv (q3 gx11.toNat) 0) ag28 rfl (fun w hw => As.at_ (hw.get (i := 0) rfl)) (zr_idx (vs := q3) ex26)) ?_
      refine L.y rfl (Y.assign rfl) ?_
      refine L.nil (E.thenN (W.seq (W.region (L.y rfl (Y.move rfl) ?_))))
      refine L.y rfl (Y.lenM (g := I) (l := x26) Try.underlying28 rfl (fun w hw => As.atZ (sds := (svSd 3 1 I)) (vs := q3) (j := 0) (hw.get (i := 1) rfl) (fun _ _ => rfl) ex26 rfl)) ?_
      refine L.y rfl (Y.move rfl) ?_
      refine L.nil (E.thenN (W.block (W.loopJ (fun m gs D => ∃ (gl13 : (List Int)) (gx14 : Int), gs = [(0, .int .i64 a0), (7, v2), (8, (sv b6 a0.toNat)), (28, v2), (29, .int .i64 (l1.length : Int)), (30, .int .i64 gx11), (34, gv (q3 gx11.toNat) 0), (35, .int .i64 (x26.length : Int)), (36, .int .i64 gx14)] ∧ D = Cls w [] [.sl v2 28 1 (zr svRow q3 l1), .ss (zs (svSd 3 1 I) q3 l1), .sl (sv b6 a0.toNat) 3 1 (gl13.map I)] ∧ m42_graph_Order_L4 x26 gx11 go3 m gl13 gx14 = some r) ⟨gl10, 0, rfl, rfl, h⟩ ⟨rfl, rfl, rfl, rfl, rfl, rfl, rfl, rfl, rfl, trivial⟩ (fun _ hw => hw) ?_)))
      rintro m _ _ ⟨gl13, gx14, rfl, rfl, h⟩
      rcases m with _ | m
      · rw [m42_graph_Order_L4] at h; cases h
      rw [m42_graph_Order_L4] at h
      generalize hg4 : m42_graph_Order_L4 x26 gx11 go3 m = go4 at h
      rw [m42_graph_Order_L4B] at h
      refine W.seq (W.region (L.ite h rfl (Y.lss rfl rfl) (fun c27 h => ?_) (fun c27 h => ?_)))
      ·
       refine L.nil (E.thenN (W.seq (W.condT rfl ?_)))
       refine W.skip (E.thenN (W.seq (W.block (W.seq (W.region (L.m (V := fun _ => el (gv (q3 gx11.toNat) 0) (gx14.toNat * 1)) h rfl (Y.indexM (g := I) (l := x26) Try.underlying28 sz3 rfl rfl (fun w hw => As.atZ (sds := (svSd 3 1 I)) (vs := q3) (j := 0) (hw.get (i := 1) rfl) (fun _ _ => rfl) ex26 rfl)) (fun x28 ex28 h => ?_)))))))
       refine L.y rfl (Y.loadE1 (u := .int .i64 x28) ag3 rfl (fun w hw => As.atZ (sds := (svSd 3 1 I)) (vs := q3) (j := 0) (hw.get (i := 1) rfl) (fun _ _ => rfl) ex26 rfl) (idx_map ex28)) ?_
       refine L.y rfl (Y.assign rfl) ?_
       refine L.nil (E.thenN (W.region (L.y rfl (Y.move rfl) ?_)))
       refine L.y rfl (Y.move rfl) ?_
       refine L.m (V := fun _ => el (sv b6 a0.toNat) (x28.toNat * 1)) h rfl (Y.indexM (g := I) (l := gl13) Try.underlying28 sz3 rfl rfl (fun w hw => As.at_ (hw.get (i := 2) rfl))) (fun x29 ex29 h => ?_)
       refine L.y rfl (Y.loadE1 (u := .int .i64 x29) ag3 rfl (fun w hw => As.at_ (hw.get (i := 2) rfl)) (idx_map ex29)) ?_
       refine L.m (V := fun x30 => .int .i64 x30) h rfl (Y.addM rfl rfl) (fun x30 ex30 h => ?_)
       refine L.m (V := fun _ => el (sv b6 a0.toNat) (x28.toNat * 1)) h rfl (Y.indexM (g := I) (l := gl13) Try.underlying28 sz3 rfl rfl (fun w hw => As.at_ (hw.get (i := 2) rfl))) (fun x31 ex31 h => ?_)
       refine L.storeSlM (q := 2) (row := I) (vs := [.int .i64 x30]) (j := 0) (u1 := x30) h sz3 rfl rfl rfl rfl rfl (all1 rfl all0) rfl ex31 rfl rfl ?_
       intro l32 el32 h
       refine L.nil (E.blockN (E.thenN (W.region (L.m (V := fun x33 => .int .i64 x33) h rfl (Y.addM rfl rfl) (fun x33 ex33 h => ?_)))))
       refine L.y rfl (Y.move rfl) ?_
       exact L.nil (E.againJ ⟨l32, x33, rfl, rfl, by rw [hg4]; exact h⟩ (Nat.lt_succ_self _) ⟨rfl, rfl, rfl, rfl, rfl, rfl, rfl, rfl, rfl, trivial⟩ (fun _ hw => hw))
      ·
       refine L.nil (E.thenN (W.seq (W.condF rfl ?_)))
       exact W.exit (E.thenX (E.KLX (E.blockX (E.blockN (E.joinJ ⟨gl13, rfl, rfl, h⟩ ⟨rfl, rfl, rfl, rfl, rfl, rfl, trivial⟩ (fun _ hw => hw))))))
     ·
      rintro _ _ ⟨gl12, rfl, rfl, h⟩
      rw [m42_graph_Order_K7] at h
      refine W.region (L.m (V := fun x25 => .int .i64 x25) h rfl (Y.addM rfl rfl) (fun x25 ex25 h => ?_))
      refine L.y rfl (Y.move rfl) ?_
      exact L.nil (E.againJ ⟨gl12, x25, rfl, rfl, by rw [hg3]; exact h⟩ (Nat.lt_succ_self _) ⟨rfl, rfl, rfl, rfl, rfl, rfl, trivial⟩ (fun _ hw => hw))
    ·
     refine L.nil (E.thenN (W.seq (W.condF rfl ?_)))
     exact W.exit (E.thenX (E.KLX (E.blockX (E.joinJ ⟨gl10, rfl, rfl, h⟩ ⟨rfl, rfl, rfl, trivial⟩ (fun _ hw => hw)))))
   ·
    rintro _ _ ⟨gl1, rfl, rfl, h⟩
    rw [m42_graph_Order_K2] at h
    refine W.seq (W.region (L.y rfl (Y.assign rfl) ?_))
    refine L.nil (E.thenN (W.seqJ (fun gs D => ∃ (gv2 : Value) (gl3 : (List Int)), gs = [(13, gv2)] ∧ D = Cls w [] [.sl gv2 3 1 (gl3.map I)] ∧ m42_graph_Order_K3 gl3 = some r) ?_ ?_))
    ·
     refine W.block (W.nilSl 3 1 ?_)
     refine W.loopJ (fun m gs D => ∃ (gl4 : (List Int)) (gv5 : Value) (gl6 : (List Int)), gs = [(0, .int .i64 a0), (7, v2), (8, (sv b6 a0.toNat)), (13, gv5)] ∧ D = Cls w [] [.sl v2 28 1 (zr svRow q3 l1), .ss (zs (svSd 3 1 I) q3 l1), .sl (sv b6 a0.toNat) 3 1 (gl4.map I), .sl gv5 3 1 (gl6.map I)] ∧ m42_graph_Order_L1 a0 l1 m gl4 gl6 = some r) ⟨gl1, .slice none 0 0, [], rfl, rfl, h⟩ ⟨rfl, rfl, rfl, rfl, trivial⟩ (fun _ hw => hw.sel [1, 2, 3, 0] (by decide) rfl) ?_
     rintro m _ _ ⟨gl4, gv5, gl6, rfl, rfl, h⟩
     rcases m with _ | m
     · rw [m42_graph_Order_L1] at h; cases h
     rw [m42_graph_Order_L1] at h
     generalize hg1 : m42_graph_Order_L1 a0 l1 m = go1 at h
     rw [m42_graph_Order_L1B] at h
     refine W.seqJ (fun gs D => gs = [(0, .int .i64 a0), (7, v2), (8, (sv b6 a0.toNat)), (13, gv5)] ∧ D = Cls w [] [.sl v2 28 1 (zr svRow q3 l1), .ss (zs (svSd 3 1 I) q3 l1), .sl (sv b6 a0.toNat) 3 1 (gl4.map I), .sl gv5 3 1 (gl6.map I)] ∧ m42_graph_Order_K4 gl4 l1 gl6 go1 = some r) ?_ ?_
     ·
      refine W.seq (W.region (L.y rfl (Y.move rfl) ?_))
      refine L.y rfl (Y.lenM (g := I) (l := gl6) Try.underlying28 rfl (fun w hw => As.at_ (hw.get (i := 3) rfl))) ?_
      refine L.y rfl (Y.move rfl) ?_
      refine L.ite h rfl (Y.lss rfl rfl) (fun c23 h => ?_) (fun c23 h => ?_)
      ·
       refine L.nil (E.thenN (W.condT rfl ?_))
       exact W.skip (E.joinJ ⟨rfl, rfl, h⟩ ⟨rfl, rfl, rfl, rfl, trivial⟩ (fun _ hw => hw))
      ·
       refine L.nil (E.thenN (W.condF rfl ?_))
       exact W.exit (E.KSX (E.KLX (E.blockX (E.joinJ ⟨gv5, gl6, rfl, rfl, h⟩ ⟨rfl, trivial⟩ (fun _ hw => hw.sel [3] (by decide) rfl)))))
     ·
      rintro _ _ ⟨rfl, rfl, h⟩
      rw [m42_graph_Order_K4] at h
      refine W.block (W.seq (W.region (L.y rfl (Y.move rfl) ?_)))
      obtain ⟨x7, e8, h⟩ := bind1S h
      refine L.y rfl (Y.does en56 rfl (fun w' hw => (w56_slices_Index_int gl4 0 (sv b6 a0.toNat) w' _ e8 (As.at_ (hw.get (i := 2) rfl))).mono (fun _ _ h => h.1))) ?_
      refine L.y rfl (Y.assign rfl) ?_
      refine L.nil (E.thenN (W.seqJ (fun gs D => gs = [(0, .int .i64 a0), (7, v2), (8, (sv b6 a0.toNat)), (13, gv5), (14, .int .i64 x7)] ∧ D = Cls w [] [.sl v2 28 1 (zr svRow q3 l1), .ss (zs (svSd 3 1 I) q3 l1), .sl (sv b6 a0.toNat) 3 1 (gl4.map I), .sl gv5 3 1 (gl6.map I)] ∧ m42_graph_Order_K5 gl4 x7 l1 gl6 go1 = some r) ?_ ?_))
      ·
       refine W.seq (W.region (L.y rfl (Y.move rfl) ?_))
       refine L.ite h rfl (Y.lss rfl rfl) (fun c22 h => ?_) (fun c22 h => ?_)
       ·
        refine L.nil (E.thenN (W.condT rfl ?_))
        refine W.seq (W.region (L.y rfl (Y.assign rfl) ?_))
        refine L.y rfl (Y.assign rfl) ?_
        refine L.nil (E.thenN (W.ret (E.KSR (E.blockR (E.KLR (E.blockR (E.KSR (E.ret2 rfl rfl rfl (fun w1 hw => ?_)))))))))
        obtain rfl := Option.some.inj h
        exact ⟨_, _, rfl, ⟨_, rfl, rfl⟩, (hw.nilSl 3 1).sel [0] (by decide) rfl⟩
       ·
        refine L.nil (E.thenN (W.condF rfl ?_))
        exact W.skip (E.joinJ ⟨rfl, rfl, h⟩ ⟨rfl, rfl, rfl, rfl, rfl, trivial⟩ (fun _ hw => hw))
      ·
       rintro _ _ ⟨rfl, rfl, h⟩
       rw [m42_graph_Order_K5] at h
       refine W.seq (W.region (L.y rfl (Y.move rfl) ?_))
       refine L.y rfl (Y.move rfl) ?_
       refine L.m (V := fun _ => el (sv b6 a0.toNat) (x7.toNat * 1)) h rfl (Y.indexM (g := I) (l := gl4) Try.underlying28 sz3 rfl rfl (fun w hw => As.at_ (hw.get (i := 2) rfl))) (fun x9 ex9 h => ?_)
       refine L.storeSlM (q := 2) (row := I) (vs := [.int .i64 (-1)]) (j := 0) (u1 := (-1)) h sz3 rfl rfl rfl rfl rfl (all1 rfl all0) rfl ex9 rfl rfl ?_
       intro l10 el10 h
       refine L.nil (E.thenN (W.seqJ (fun gs D => ∃ (gl7 : (List Int)), gs = [(0, .int .i64 a0), (7, v2), (8, (sv b6 a0.toNat)), (13, gv5), (14, .int .i64 x7)] ∧ D = Cls w [] [.sl v2 28 1 (zr svRow q3 l1), .ss (zs (svSd 3 1 I) q3 l1), .sl (sv b6 a0.toNat) 3 1 (gl7.map I), .sl gv5 3 1 (gl6.map I)] ∧ m42_graph_Order_K6 gl6 x7 go1 gl7 = some r) ?_ ?_))
       ·
        refine W.seq (W.region (L.y rfl (Y.move rfl) ?_))
        refine L.y rfl (Y.move rfl) ?_
        refine L.m (V := fun _ => el v2 (x7.toNat * 1)) h rfl (Y.indexMZ (row := svRow) (vs := q3) (l := l1) Try.underlying45 sz28 rfl rfl (fun w hw => As.at_ (hw.get (i := 0) rfl))) (fun x14 ex14 h => ?_)
        refine L.y rfl (Y.loadE1 (u := gv (q3 x7.toNat) 0) ag28 rfl (fun w hw => As.at_ (hw.get (i := 0) rfl)) (zr_idx (vs := q3) ex14)) ?_
        refine L.y rfl (Y.lenM (g := I) (l := x14) Try.underlying28 rfl (fun w hw => As.atZ (sds := (svSd 3 1 I)) (vs := q3) (j := 0) (hw.get (i := 1) rfl) (fun _ _ => rfl) ex14 rfl)) ?_
        refine L.y rfl (Y.move rfl) ?_
        refine L.nil (E.thenN (W.block (W.loopJ (fun m gs D => ∃ (gl8 : (List Int)) (gx9 : Int), gs = [(0, .int .i64 a0), (7, v2), (8, (sv b6 a0.toNat)), (13, gv5), (14, .int .i64 x7), (62, gv (q3 x7.toNat) 0), (63, .int .i64 (x14.length : Int)), (64, .int .i64 gx9)] ∧ D = Cls w [] [.sl v2 28 1 (zr svRow q3 l1), .ss (zs (svSd 3 1 I) q3 l1), .sl (sv b6 a0.toNat) 3 1 (gl8.map I), .sl gv5 3 1 (gl6.map I)] ∧ m42_graph_Order_L2 x14 gl6 x7 go1 m gl8 gx9 = some r) ⟨l10, 0, rfl, rfl, h⟩ ⟨rfl, rfl, rfl, rfl, rfl, rfl, rfl, rfl, trivial⟩ (fun _ hw => hw) ?_)))
        rintro m _ _ ⟨gl8, gx9, rfl, rfl, h⟩
        rcases m with _ | m
        · rw [m42_graph_Order_L2] at h; cases h
        rw [m42_graph_Order_L2] at h
        generalize hg2 : m42_graph_Order_L2 x14 gl6 x7 go1 m = go2 at h
        rw [m42_graph_Order_L2B] at h
        refine W.seq (W.region (L.ite h rfl (Y.lss rfl rfl) (fun c15 h => ?_) (fun c15 h => ?_)))
        ·
         refine L.nil (E.thenN (W.seq (W.condT rfl ?_)))
         refine W.skip (E.thenN (W.seq (W.block (W.seq (W.region (L.m (V := fun _ => el (gv (q3 x7.toNat) 0) (gx9.toNat * 1)) h rfl (Y.indexM (g := I) (l := x14) Try.underlying28 sz3 rfl rfl (fun w hw => As.atZ (sds := (svSd 3 1 I)) (vs := q3) (j := 0) (hw.get (i := 1) rfl) (fun _ _ => rfl) ex14 rfl)) (fun x16 ex16 h => ?_)))))))
         refine L.y rfl (Y.loadE1 (u := .int .i64 x16) ag3 rfl (fun w hw => As.atZ (sds := (svSd 3 1 I)) (vs := q3) (j := 0) (hw.get (i := 1) rfl) (fun _ _ => rfl) ex14 rfl) (idx_map ex16)) ?_
         refine L.y rfl (Y.assign rfl) ?_
         refine L.nil (E.thenN (W.region (L.y rfl (Y.move rfl) ?_)))
         refine L.y rfl (Y.move rfl) ?_
         refine L.m (V := fun _ => el (sv b6 a0.toNat) (x16.toNat * 1)) h rfl (Y.indexM (g := I) (l := gl8) Try.underlying28 sz3 rfl rfl (fun w hw => As.at_ (hw.get (i := 2) rfl))) (fun x17 ex17 h => ?_)
         refine L.y rfl (Y.loadE1 (u := .int .i64 x17) ag3 rfl (fun w hw => As.at_ (hw.get (i := 2) rfl)) (idx_map ex17)) ?_
         refine L.m (V := fun x18 => .int .i64 x18) h rfl (Y.subM rfl rfl) (fun x18 ex18 h => ?_)
         refine L.m (V := fun _ => el (sv b6 a0.toNat) (x16.toNat * 1)) h rfl (Y.indexM (g := I) (l := gl8) Try.underlying28 sz3 rfl rfl (fun w hw => As.at_ (hw.get (i := 2) rfl))) (fun x19 ex19 h => ?_)
         refine L.storeSlM (q := 2) (row := I) (vs := [.int .i64 x18]) (j := 0) (u1 := x18) h sz3 rfl rfl rfl rfl rfl (all1 rfl all0) rfl ex19 rfl rfl ?_
         intro l20 el20 h
         refine L.nil (E.blockN (E.thenN (W.region (L.m (V := fun x21 => .int .i64 x21) h rfl (Y.addM rfl rfl) (fun x21 ex21 h => ?_)))))
         refine L.y rfl (Y.move rfl) ?_
         exact L.nil (E.againJ ⟨l20, x21, rfl, rfl, by rw [hg2]; exact h⟩ (Nat.lt_succ_self _) ⟨rfl, rfl, rfl, rfl, rfl, rfl, rfl, rfl, trivial⟩ (fun _ hw => hw))
        ·
         refine L.nil (E.thenN (W.seq (W.condF rfl ?_)))
         exact W.exit (E.thenX (E.KLX (E.blockX (E.joinJ ⟨gl8, rfl, rfl, h⟩ ⟨rfl, rfl, rfl, rfl, rfl, trivial⟩ (fun _ hw => hw)))))
       ·
        rintro _ _ ⟨gl7, rfl, rfl, h⟩
        rw [m42_graph_Order_K6] at h
        refine W.region (L.y rfl (Y.move rfl) ?_)
        refine L.y rfl (Y.move rfl) ?_
        refine L.litOne rfl Try.underlying28 el3 rfl rfl ?_
        intro b11
        refine L.appM (i := 4) (g := I) (l := gl6) (more := [x7]) h rfl Try.underlying28 el3 rfl rfl rfl (fun w hw => As.at_ (hw.get (i := 0) rfl)) (plain_ints _) rfl ?_
        intro v12 l13 el13 h
        refine L.y rfl (Y.assign rfl) ?_
        exact L.nil (E.blockN (E.againJ ⟨gl7, v12, l13, rfl, rfl, by rw [hg1]; exact h⟩ (Nat.lt_succ_self _) ⟨rfl, rfl, rfl, rfl, trivial⟩ (fun _ hw => hw.sel [2, 3, 4, 0] (by decide) rfl)))
    ·
     rintro _ _ ⟨gv2, gl3, rfl, rfl, h⟩
     rw [m42_graph_Order_K3] at h
     refine W.seq (W.region (L.y rfl (Y.move rfl) ?_))
     refine L.y rfl (Y.assign rfl) ?_
     refine L.y rfl (Y.assign rfl) ?_
     refine L.nil (E.thenN (W.ret (E.ret2 rfl rfl rfl (fun w1 hw => ?_))))
     obtain rfl := Option.some.inj h
     exact ⟨_, _, rfl, ⟨_, rfl, rfl⟩, hw⟩
set_option maxRecDepth 100000 in
set_option maxHeartbeats 8000000 in
theorem w10_run_Serial (a0 : (List TOp)) (u0 : Value) (w : World) (r : ((List Int) × Int)) (h : m10_run_Serial a0 = some r) (hA0 : At w u0 3 (a0.map TOp.row)) : Does Try.prog 10 [u0] w fun u m => ∃ v0, u = .tuple #[v0, .int .i64 r.2] ∧ m = [.sl v0 3 1 (r.1.map I)] := by
  rw [m10_run_Serial] at h
  refine body (n := 29) Try.func10 rfl rfl rfl (Cls.refl w) ?_
  refine W.seq (W.region (L.y rfl (Y.assign rfl) ?_))
  refine L.y rfl (Y.assign rfl) ?_
  refine L.nil (E.thenN (W.seq (W.region (L.y rfl (Y.move rfl) ?_))))
  obtain ⟨l1, x3, e4, h⟩ := bind2S h
  refine L.does rfl en9 rfl (fun w' hw => w9_run_Edges a0 u0 w' _ e4 (hA0.cls0 hw)) ?_
  rintro _ _ ⟨v2, rfl, rfl⟩
  refine L.y rfl (Y.move rfl) ?_
  refine L.y rfl (Y.extract rfl rfl) ?_
  refine L.y rfl (Y.extract rfl rfl) ?_
  refine L.y rfl (Y.assign rfl) ?_
  refine L.y rfl (Y.assign rfl) ?_
  refine L.nil (E.thenN (W.seqJ (fun gs D => gs = [(0, u0), (4, v2)] ∧ D = Cls w [] [.sl v2 40 2 (l1.map TEdge.row)] ∧ m10_run_Serial_K1 l1 a0 = some r) ?_ ?_))
  ·
   refine W.seq (W.region (L.y rfl (Y.move rfl) ?_))
   refine L.ite h rfl (Y.neq rfl rfl) (fun c33 h => ?_) (fun c33 h => ?_)
   ·
    refine L.nil (E.thenN (W.condT rfl ?_))
    refine W.seq (W.region (L.y rfl (Y.move rfl) ?_))
    refine L.y rfl (Y.assign rfl) ?_
    refine L.y rfl (Y.assign rfl) ?_
    refine L.nil (E.thenN (W.ret (E.KSR (E.ret2 rfl rfl rfl (fun w1 hw => ?_)))))
    obtain rfl := Option.some.inj h
    exact ⟨_, _, rfl, ⟨_, rfl, rfl⟩, (hw.nilSl 3 1).sel [0] (by decide) rfl⟩
   ·
    refine L.nil (E.thenN (W.condF rfl ?_))
    exact W.skip (E.joinJ ⟨rfl, rfl, h⟩ ⟨rfl, rfl, trivial⟩ (fun _ hw => hw))
  ·
   rintro _ _ ⟨rfl, rfl, h⟩
   rw [m10_run_Serial_K1] at h
   refine W.seq (W.region (L.y rfl (Y.move rfl) ?_))
   obtain ⟨l5, x7, e8, h⟩ := bind2S h
   refine L.does rfl en42 rfl (fun w' hw => w42_graph_Order 12 l1 v2 w' _ e8 (As.at_ (hw.get (i := 0) rfl))) ?_
   rintro _ _ ⟨v6, rfl, rfl⟩
   refine L.y rfl (Y.move rfl) ?_
   refine L.y rfl (Y.extract rfl rfl) ?_
   refine L.y rfl (Y.extract rfl rfl) ?_
   refine L.y rfl (Y.assign rfl) ?_
   refine L.y rfl (Y.assign rfl) ?_
   refine L.nil (E.thenN (W.seqJ (fun gs D => gs = [(0, u0), (6, v6)] ∧ D = Cls w [] [.sl v6 3 1 (l5.map I)] ∧ m10_run_Serial_K2 a0 l5 = some r) ?_ ?_))
   ·
    refine W.seq (W.region (L.y rfl (Y.move rfl) ?_))
    refine L.ite h rfl (Y.neq rfl rfl) (fun c32 h => ?_) (fun c32 h => ?_)
    ·
     refine L.nil (E.thenN (W.condT rfl ?_))
     refine W.seq (W.region (L.y rfl (Y.move rfl) ?_))
     refine L.y rfl (Y.assign rfl) ?_
     refine L.y rfl (Y.assign rfl) ?_
     refine L.nil (E.thenN (W.ret (E.KSR (E.ret2 rfl rfl rfl (fun w1 hw => ?_)))))
     obtain rfl := Option.some.inj h
     exact ⟨_, _, rfl, ⟨_, rfl, rfl⟩, (hw.nilSl 3 1).sel [0] (by decide) rfl⟩
    ·
     refine L.nil (E.thenN (W.condF rfl ?_))
     exact W.skip (E.joinJ ⟨rfl, rfl, h⟩ ⟨rfl, rfl, trivial⟩ (fun _ hw => hw.sel [0] (by decide) rfl))
   ·
    rintro _ _ ⟨rfl, rfl, h⟩
    rw [m10_run_Serial_K2] at h
    refine W.seq (W.region (L.y rfl (Y.move rfl) ?_))
    obtain ⟨x9, e10, h⟩ := bind1S h
    refine L.y rfl (Y.does en40 rfl (fun w' hw => (w40_run_ended a0 3 u0 w' _ e10 (hA0.cls0 hw)).mono (fun _ _ h => h.1))) ?_
    refine L.alloc rfl ze85 ?_
    intro b11
    refine L.to (D := Cls w [] [.obj b11 (((List.replicate 12 (false : Bool)).map B).flatten) 85, .sl v6 3 1 (l5.map I)]) (fun _ hw => by first | exact hw | simpa [I, B, SR] using hw) ?_
    obtain ⟨_, en12, h⟩ := bind1S h
    obtain ⟨_, en12⟩ := arrN_some en12
    obtain ⟨_, en13, h⟩ := bind1S h
    obtain ⟨_, en13⟩ := arrN_some en13
    refine L.storeArW (i := 0) (row := B) en12 en13 rfl (fun _ => rfl) (plain_bools _) sz85 rfl rfl rfl ?_
    refine L.nil (E.thenN (W.seq (W.region (L.y rfl (Y.move rfl) ?_))))
    refine L.y rfl (Y.func rfl) ?_
    refine L.callJ (fun v D => ∃ (gv1 : Value) (gl2 : (List Int)), v = gv1 ∧ D = Cls w [] [.obj b11 ((x9.map B).flatten) 85, .sl gv1 3 1 (gl2.map I)] ∧ m10_run_Serial_K3 gl2 = some r) rfl en43 rfl Try.func43 rfl rfl rfl ?_ ?_
    ·
     refine W.seq (W.region (L.y rfl (Y.assign rfl) ?_))
     refine L.nil (E.thenN (W.seq (W.region (L.y rfl (Y.move rfl) ?_))))
     refine L.y rfl (Y.move rfl) ?_
     refine L.callJ (fun v D => ∃ (gx3 : Int), v = .int .i64 gx3 ∧ D = Cls w [] [.obj b11 ((x9.map B).flatten) 85, .sl v6 3 1 (l5.map I)] ∧ m10_run_Serial_K4 l5 x9 gx3 = some r) rfl en111 rfl Try.func111 rfl rfl rfl ?_ ?_
     ·
      refine W.seq (W.region (L.y rfl (Y.assign rfl) ?_))
      refine L.nil (E.thenN (W.seqJ (fun gs D => gs = [] ∧ D = Cls w [] [.obj b11 ((x9.map B).flatten) 85, .sl v6 3 1 (l5.map I)] ∧ m10_run_Serial_K9 l5 x9 = some r) ?_ ?_))
      ·
       refine W.seq (W.region (L.y rfl (Y.move rfl) ?_))
       refine L.y rfl (Y.lenM (g := I) (l := l5) Try.underlying28 rfl (fun w hw => As.at_ (hw.get (i := 1) rfl))) ?_
       refine L.y rfl (Y.move rfl) ?_
       refine L.nil (E.thenN (W.block (W.loopJ (fun m gs D => ∃ (gx10 : Int), gs = [(0, v6), (1, .func (.func 44) #[] #[pt b11 0]), (7, .int .i64 (l5.length : Int)), (8, .int .i64 gx10)] ∧ D = Cls w [] [.obj b11 ((x9.map B).flatten) 85, .sl v6 3 1 (l5.map I)] ∧ m10_run_Serial_L2 l5 x9 m gx10 = some r) ⟨0, rfl, rfl, h⟩ ⟨rfl, rfl, rfl, rfl, trivial⟩ (fun _ hw => hw) ?_)))
       rintro m _ _ ⟨gx10, rfl, rfl, h⟩
       rcases m with _ | m
       · rw [m10_run_Serial_L2] at h; cases h
       rw [m10_run_Serial_L2] at h
       generalize hg2 : m10_run_Serial_L2 l5 x9 m = go2 at h
       rw [m10_run_Serial_L2B] at h
       refine W.seq (W.region (L.ite h rfl (Y.lss rfl rfl) (fun c28 h => ?_) (fun c28 h => ?_)))
       ·
        refine L.nil (E.thenN (W.seq (W.condT rfl ?_)))
        refine W.skip (E.thenN (W.seq (W.block (W.seq (W.region (L.y rfl (Y.move rfl) ?_))))))
        refine L.y rfl (Y.assign rfl) ?_
        refine L.nil (E.thenN (W.seq (W.region (L.y rfl (Y.move rfl) ?_))))
        refine L.y rfl (Y.move rfl) ?_
        refine L.y rfl (Y.move rfl) ?_
        refine L.m (V := fun _ => el v6 (gx10.toNat * 1)) h rfl (Y.indexM (g := I) (l := l5) Try.underlying28 sz3 rfl rfl (fun w hw => As.at_ (hw.get (i := 1) rfl))) (fun x29 ex29 h => ?_)
        refine L.y rfl (Y.loadE1 (u := .int .i64 x29) ag3 rfl (fun w hw => As.at_ (hw.get (i := 1) rfl)) (idx_map ex29)) ?_
        refine L.callVJ (fun v D => ∃ (gb11 : Bool), v = .bool gb11 ∧ D = Cls w [] [.obj b11 ((x9.map B).flatten) 85, .sl v6 3 1 (l5.map I)] ∧ m10_run_Serial_K10 l5 x9 gx10 go2 gb11 = some r) rfl en44 rfl rfl Try.func44 rfl rfl rfl ?_ ?_
        ·
         refine W.seq (W.region (L.y rfl (Y.assign rfl) ?_))
         refine L.nil (E.thenN (W.seq (W.region (L.y rfl (Y.move rfl) ?_))))
         refine L.m (V := fun _ => pt b11 (0 + x29.toNat * 1)) h rfl (Y.indexAM (l := x9) Try.underlying85 sz4 rfl rfl) (fun x31 ex31 h => ?_)
         refine L.y rfl (Y.loadAr (q := 0) (row := B) (j := 0) (p := .bool x31) ag4 rfl rfl rfl (fun _ => rfl) (idxA_idx ex31) rfl) ?_
         refine L.y rfl (Y.not rfl) ?_
         refine L.y rfl (Y.assign rfl) ?_
         refine L.nil (E.thenN (W.ret (E.ret1 rfl rfl (fun w1 hw => ?_))))
         exact ⟨_, _, rfl, ⟨(!x31), rfl, rfl, h⟩, hw⟩
        ·
         rintro _ _ ⟨gb11, rfl, rfl, h⟩
         rw [m10_run_Serial_K10] at h
         rcases gb11 with _ | _
         ·
          replace h := iteF h
          refine L.nil (E.thenN (W.condF rfl ?_))
          refine W.skip (E.blockN (E.thenN (W.region (L.m (V := fun x30 => .int .i64 x30) h rfl (Y.addM rfl rfl) (fun x30 ex30 h => ?_)))))
          refine L.y rfl (Y.move rfl) ?_
          exact L.nil (E.againJ ⟨x30, rfl, rfl, by rw [hg2]; exact h⟩ (Nat.lt_succ_self _) ⟨rfl, rfl, rfl, rfl, trivial⟩ (fun _ hw => hw))
         ·
          replace h := iteT h
          refine L.nil (E.thenN (W.condT rfl ?_))
          refine W.seq (W.region (L.y rfl (Y.move rfl) ?_))
          refine L.y rfl (Y.assign rfl) ?_
          refine L.nil (E.thenN (W.ret (E.blockR (E.thenR (E.KLR (E.blockR (E.KSR (E.ret1 rfl rfl (fun w1 hw => ?_)))))))))
          exact ⟨_, _, rfl, ⟨gx10, rfl, rfl, h⟩, hw⟩
       ·
        refine L.nil (E.thenN (W.seq (W.condF rfl ?_)))
        exact W.exit (E.thenX (E.KLX (E.blockX (E.joinJ ⟨rfl, rfl, h⟩ trivial (fun _ hw => hw)))))
      ·
       rintro _ _ ⟨rfl, rfl, h⟩
       rw [m10_run_Serial_K9] at h
       refine W.seq (W.region (L.y rfl (Y.assign rfl) ?_))
       refine L.nil (E.thenN (W.ret (E.ret1 rfl rfl (fun w1 hw => ?_))))
       exact ⟨_, _, rfl, ⟨(-1), rfl, rfl, h⟩, hw⟩
     ·
      rintro _ _ ⟨gx3, rfl, rfl, h⟩
      rw [m10_run_Serial_K4] at h
      refine L.y rfl (Y.assign rfl) ?_
      refine L.nil (E.thenN (W.seqJ (fun gs D => gs = [(0, v6), (1, .func (.func 44) #[] #[pt b11 0]), (5, .int .i64 gx3)] ∧ D = Cls w [] [.obj b11 ((x9.map B).flatten) 85, .sl v6 3 1 (l5.map I)] ∧ m10_run_Serial_K5 gx3 x9 l5 = some r) ?_ ?_))
      ·
       refine W.seq (W.region (L.y rfl (Y.move rfl) ?_))
       refine L.ite h rfl (Y.eql rfl rfl) (fun c27 h => ?_) (fun c27 h => ?_)
       ·
        refine L.nil (E.thenN (W.condT rfl ?_))
        refine W.seq (W.region (L.y rfl (Y.move rfl) ?_))
        refine L.y rfl (Y.assign rfl) ?_
        refine L.nil (E.thenN (W.ret (E.KSR (E.ret1 rfl rfl (fun w1 hw => ?_)))))
        exact ⟨_, _, rfl, ⟨v6, l5, rfl, rfl, h⟩, hw⟩
       ·
        refine L.nil (E.thenN (W.condF rfl ?_))
        exact W.skip (E.joinJ ⟨rfl, rfl, h⟩ ⟨rfl, rfl, rfl, trivial⟩ (fun _ hw => hw))
      ·
       rintro _ _ ⟨rfl, rfl, h⟩
       rw [m10_run_Serial_K5] at h
       refine W.seqJ (fun gs D => ∃ (gl4 : (List Int)) (gx5 : Int), gs = [(0, v6), (5, .int .i64 gx5)] ∧ D = Cls w [] [.obj b11 ((x9.map B).flatten) 85, .sl v6 3 1 (gl4.map I)] ∧ m10_run_Serial_K6 gl4 gx5 = some r) ?_ ?_
       ·
        refine W.seq (W.region (L.y rfl (Y.move rfl) ?_))
        refine L.m (V := fun x18 => .int .i64 x18) h rfl (Y.addM rfl rfl) (fun x18 ex18 h => ?_)
        refine L.y rfl (Y.assign rfl) ?_
        refine L.nil (E.thenN (W.block (W.loopJ (fun m gs D => ∃ (gl6 : (List Int)) (gx7 : Int) (gx8 : Int), gs = [(0, v6), (1, .func (.func 44) #[] #[pt b11 0]), (5, .int .i64 gx7), (6, .int .i64 gx8)] ∧ D = Cls w [] [.obj b11 ((x9.map B).flatten) 85, .sl v6 3 1 (gl6.map I)] ∧ m10_run_Serial_L1 x9 m gl6 gx7 gx8 = some r) ⟨l5, gx3, x18, rfl, rfl, h⟩ ⟨rfl, rfl, rfl, rfl, trivial⟩ (fun _ hw => hw) ?_)))
        rintro m _ _ ⟨gl6, gx7, gx8, rfl, rfl, h⟩
        rcases m with _ | m
        · rw [m10_run_Serial_L1] at h; cases h
        rw [m10_run_Serial_L1] at h
        generalize hg1 : m10_run_Serial_L1 x9 m = go1 at h
        rw [m10_run_Serial_L1B] at h
        refine W.seqJ (fun gs D => gs = [(0, v6), (1, .func (.func 44) #[] #[pt b11 0]), (5, .int .i64 gx7), (6, .int .i64 gx8)] ∧ D = Cls w [] [.obj b11 ((x9.map B).flatten) 85, .sl v6 3 1 (gl6.map I)] ∧ m10_run_Serial_K7 gl6 gx8 x9 go1 gx7 = some r) ?_ ?_
        ·
         refine W.seq (W.region (L.y rfl (Y.move rfl) ?_))
         refine L.y rfl (Y.move rfl) ?_
         refine L.y rfl (Y.lenM (g := I) (l := gl6) Try.underlying28 rfl (fun w hw => As.at_ (hw.get (i := 1) rfl))) ?_
         refine L.ite h rfl (Y.lss rfl rfl) (fun c26 h => ?_) (fun c26 h => ?_)
         ·
          refine L.nil (E.thenN (W.condT rfl ?_))
          exact W.skip (E.joinJ ⟨rfl, rfl, h⟩ ⟨rfl, rfl, rfl, rfl, trivial⟩ (fun _ hw => hw))
         ·
          refine L.nil (E.thenN (W.condF rfl ?_))
          exact W.exit (E.KSX (E.KLX (E.blockX (E.joinJ ⟨gl6, gx7, rfl, rfl, h⟩ ⟨rfl, rfl, trivial⟩ (fun _ hw => hw)))))
        ·
         rintro _ _ ⟨rfl, rfl, h⟩
         rw [m10_run_Serial_K7] at h
         refine W.seq (W.block (W.seq (W.region (L.y rfl (Y.move rfl) ?_))))
         refine L.y rfl (Y.move rfl) ?_
         refine L.m (V := fun _ => el v6 (gx8.toNat * 1)) h rfl (Y.indexM (g := I) (l := gl6) Try.underlying28 sz3 rfl rfl (fun w hw => As.at_ (hw.get (i := 1) rfl))) (fun x19 ex19 h => ?_)
         refine L.y rfl (Y.loadE1 (u := .int .i64 x19) ag3 rfl (fun w hw => As.at_ (hw.get (i := 1) rfl)) (idx_map ex19)) ?_
         refine L.y rfl (Y.assign rfl) ?_
         refine L.nil (E.thenN (W.seq (W.region (L.y rfl (Y.move rfl) ?_))))
         refine L.y rfl (Y.move rfl) ?_
         refine L.callVJ (fun v D => ∃ (gb9 : Bool), v = .bool gb9 ∧ D = Cls w [] [.obj b11 ((x9.map B).flatten) 85, .sl v6 3 1 (gl6.map I)] ∧ m10_run_Serial_K8 gx8 go1 gl6 gx7 x19 gb9 = some r) rfl en44 rfl rfl Try.func44 rfl rfl rfl ?_ ?_
         ·
          refine W.seq (W.region (L.y rfl (Y.assign rfl) ?_))
          refine L.nil (E.thenN (W.seq (W.region (L.y rfl (Y.move rfl) ?_))))
          refine L.m (V := fun _ => pt b11 (0 + x19.toNat * 1)) h rfl (Y.indexAM (l := x9) Try.underlying85 sz4 rfl rfl) (fun x25 ex25 h => ?_)
          refine L.y rfl (Y.loadAr (q := 0) (row := B) (j := 0) (p := .bool x25) ag4 rfl rfl rfl (fun _ => rfl) (idxA_idx ex25) rfl) ?_
          refine L.y rfl (Y.not rfl) ?_
          refine L.y rfl (Y.assign rfl) ?_
          refine L.nil (E.thenN (W.ret (E.ret1 rfl rfl (fun w1 hw => ?_))))
          exact ⟨_, _, rfl, ⟨(!x25), rfl, rfl, h⟩, hw⟩
         ·
          rintro _ _ ⟨gb9, rfl, rfl, h⟩
          rw [m10_run_Serial_K8] at h
          rcases gb9 with _ | _
          ·
           replace h := iteF h
           refine L.y rfl (Y.not rfl) ?_
           refine L.nil (E.thenN (W.condT rfl ?_))
           refine W.seq (W.region (L.y rfl (Y.move rfl) ?_))
           refine L.y rfl (Y.move rfl) ?_
           refine L.y rfl (Y.move rfl) ?_
           refine L.m (V := fun _ => el v6 (gx7.toNat * 1)) h rfl (Y.indexM (g := I) (l := gl6) Try.underlying28 sz3 rfl rfl (fun w hw => As.at_ (hw.get (i := 1) rfl))) (fun x20 ex20 h => ?_)
           refine L.storeSlM (q := 1) (row := I) (vs := [.int .i64 x19]) (j := 0) (u1 := x19) h sz3 rfl rfl rfl rfl rfl (all1 rfl all0) rfl ex20 rfl rfl ?_
           intro l21 el21 h
           refine L.nil (E.thenN (W.region (L.y rfl (Y.move rfl) ?_)))
           refine L.m (V := fun x22 => .int .i64 x22) h rfl (Y.addM rfl rfl) (fun x22 ex22 h => ?_)
           refine L.y rfl (Y.assign rfl) ?_
           refine L.nil (E.blockN (E.thenN (W.region (L.y rfl (Y.move rfl) ?_))))
           refine L.m (V := fun x23 => .int .i64 x23) h rfl (Y.addM rfl rfl) (fun x23 ex23 h => ?_)
           refine L.y rfl (Y.assign rfl) ?_
           exact L.nil (E.againJ ⟨l21, x22, x23, rfl, rfl, by rw [hg1]; exact h⟩ (Nat.lt_succ_self _) ⟨rfl, rfl, rfl, rfl, trivial⟩ (fun _ hw => hw))
          ·
           replace h := iteT h
           refine L.y rfl (Y.not rfl) ?_
           refine L.nil (E.thenN (W.condF rfl ?_))
           refine W.skip (E.blockN (E.thenN (W.region (L.y rfl (Y.move rfl) ?_))))
           refine L.m (V := fun x24 => .int .i64 x24) h rfl (Y.addM rfl rfl) (fun x24 ex24 h => ?_)
           refine L.y rfl (Y.assign rfl) ?_
           exact L.nil (E.againJ ⟨gl6, gx7, x24, rfl, rfl, by rw [hg1]; exact h⟩ (Nat.lt_succ_self _) ⟨rfl, rfl, rfl, rfl, trivial⟩ (fun _ hw => hw))
       ·
        rintro _ _ ⟨gl4, gx5, rfl, rfl, h⟩
        rw [m10_run_Serial_K6] at h
        refine W.seq (W.region (L.y rfl (Y.move rfl) ?_))
        refine L.y rfl (Y.move rfl) ?_
        refine L.m (V := fun _ => dropv v6 gx5.toNat 1) h rfl (Y.dropM (g := I) Try.underlying28 sz3 rfl rfl (fun w hw => As.at_ (hw.get (i := 1) rfl))) (fun l14 el14 h => ?_)
        refine L.clearM (i := 1) (g := I) (z0 := 0) (a := gx5) h Try.underlying28 el3 ze3 (fun u hu => ((plain_ints _) : Plain ([0].map I)) _ (List.mem_cons_self ..) u hu) rfl rfl ?_
        intro l15 el15 h
        refine L.nil (E.thenN (W.seq (W.region (L.y rfl (Y.move rfl) ?_))))
        refine L.y rfl (Y.move rfl) ?_
        obtain ⟨l16, el16, h⟩ := bind1S h
        refine L.cutM (i := 1) (g := I) el16 rfl Try.underlying28 sz3 rfl rfl rfl (fun v17 => ?_)
        refine L.y rfl (Y.assign rfl) ?_
        refine L.nil (E.thenN (W.ret (E.ret1 rfl rfl (fun w1 hw => ?_))))
        exact ⟨_, _, rfl, ⟨v17, l16, rfl, rfl, h⟩, hw⟩
    ·
     rintro gv1 _ ⟨_, gl2, rfl, rfl, h⟩
     rw [m10_run_Serial_K3] at h
     refine L.y rfl (Y.assign rfl) ?_
     refine L.y rfl (Y.assign rfl) ?_
     refine L.nil (E.thenN (W.ret (E.ret2 rfl rfl rfl (fun w1 hw => ?_))))
     obtain rfl := Option.some.inj h
     exact ⟨_, _, rfl, ⟨_, rfl, rfl⟩, hw.sel [1] (by decide) rfl⟩
set_option maxRecDepth 100000 in
set_option maxHeartbeats 8000000 in
theorem w11_run_Kinds (a0 : (List TOp)) (u0 : Value) (w : World) (r : (TRunKind × Int)) (h : m11_run_Kinds a0 = some r) (hA0 : At w u0 3 (a0.map TOp.row)) : Does Try.prog 11 [u0] w fun u m => u = .tuple #[.agg #[.bool r.1.Recoverable, .bool r.1.Cascadeless, .bool r.1.Strict], .int .i64 r.2] ∧ m = [] := by
  rw [m11_run_Kinds] at h
  refine body (n := 147) Try.func11 rfl rfl rfl (Cls.refl w) ?_
  refine W.seq (W.region (L.alloc rfl ze32 ?_))
  intro b1
  refine L.y rfl (Y.assign rfl) ?_
  refine L.nil (E.thenN (W.seqJ (fun gs D => gs = [(0, u0), (2, pt b1 0)] ∧ D = Cls w [] [.obj b1 [.bool false, .bool false, .bool false] 32] ∧ m11_run_Kinds_K1 a0 = some r) ?_ ?_))
  ·
   refine W.seq (W.region (L.y rfl (Y.move rfl) ?_))
   obtain ⟨x110, e111, h⟩ := bind1S h
   refine L.y rfl (Y.does en12 rfl (fun w' hw => (w12_run_Check a0 u0 w' _ e111 (hA0.cls0 hw)).mono (fun _ _ h => h.1))) ?_
   refine L.y rfl (Y.assign rfl) ?_
   refine L.nil (E.thenN (W.seq (W.region (L.y rfl (Y.move rfl) ?_))))
   refine L.ite h rfl (Y.neq rfl rfl) (fun c112 h => ?_) (fun c112 h => ?_)
   ·
    refine L.nil (E.thenN (W.condT rfl ?_))
    refine W.seq (W.region (L.y rfl (Y.build (cells := #[.bool false, .bool false, .bool false]) rfl (by kernel_rfl)) ?_))
    refine L.y rfl (Y.move rfl) ?_
    refine L.store (i := 0) sz32 rfl rfl rfl rfl (by simp [Value.oneCell', Value.cells, st]) rfl (Nat.le_of_ble_eq_true rfl) ?_
    refine L.y rfl (Y.assign rfl) ?_
    refine L.nil (E.thenN (W.ret (E.KSR (E.retR2 rfl (Rv.cellW (i := 0) ag32 sz32 rfl rfl rfl) (Rv.tmp rfl) (fun w1 hw => ?_)))))
    obtain rfl := Option.some.inj h
    exact ⟨_, _, rfl, ⟨rfl, rfl⟩, hw.sel [] (by decide) rfl⟩
   ·
    refine L.nil (E.thenN (W.condF rfl ?_))
    exact W.skip (E.joinJ ⟨rfl, rfl, h⟩ ⟨rfl, rfl, trivial⟩ (fun _ hw => hw))
  ·
   rintro _ _ ⟨rfl, rfl, h⟩
   rw [m11_run_Kinds_K1] at h
   refine W.seq (W.region (L.y rfl (Y.build (cells := #[.bool true, .bool true, .bool true]) rfl (by kernel_rfl)) ?_))
   refine L.alloc rfl ze32 ?_
   intro b2
   refine L.store (i := 0) sz32 rfl rfl rfl rfl (by simp [Value.oneCell', Value.cells, st]) rfl (Nat.le_of_ble_eq_true rfl) ?_
   refine L.nil (E.thenN (W.seq (W.region (L.y rfl (Y.build (cells := ((List.replicate 12 (0 : Int)).map I).flatten.toArray) rfl (by kernel_rfl)) ?_))))
   refine L.alloc rfl ze92 ?_
   intro b3
   refine L.to (D := Cls w [] [.obj b3 (((List.replicate 12 (0 : Int)).map I).flatten) 92, .obj b2 [.bool true, .bool true, .bool true] 32, .obj b1 [.bool false, .bool false, .bool false] 32]) (fun _ hw => by first | exact hw | simpa [I, B, SR] using hw) ?_
   obtain ⟨_, en4, h⟩ := bind1S h
   obtain ⟨_, en4⟩ := arrN_some en4
   obtain ⟨_, en5, h⟩ := bind1S h
   obtain ⟨_, en5⟩ := arrN_some en5
   refine L.storeArW (i := 0) (row := I) en4 en5 rfl (fun _ => rfl) (plain_ints _) sz92 rfl rfl rfl ?_
   refine L.nil (E.thenN (W.seq (W.region (L.alloc rfl ze93 ?_))))
   intro b6
   refine L.ssNew (row := svRow) (sds := (svSd 3 1 I)) (vs := (fun _ => [nilV])) (xs := (List.replicate 20 ([] : (List Int)))) rfl (zs_repl (gall1 rfl rfl gall0) _) ?_
   refine L.nil (E.thenN (W.seq (W.region (L.alloc rfl ze94 ?_))))
   intro b7
   refine L.ssNew (row := svRow) (sds := (svSd 3 1 I)) (vs := (fun _ => [nilV])) (xs := (List.replicate 12 ([] : (List Int)))) rfl (zs_repl (gall1 rfl rfl gall0) _) ?_
   refine L.nil (E.thenN (W.seqJ (fun gs D => ∃ (gb1 : Bool) (gb2 : Bool) (gb3 : Bool), gs = [(2, pt b1 0), (5, pt b2 0)] ∧ D = Cls w [] [.obj b2 [.bool gb1, .bool gb2, .bool gb3] 32, .obj b1 [.bool false, .bool false, .bool false] 32] ∧ m11_run_Kinds_K2 gb1 gb2 gb3 = some r) ?_ ?_))
   ·
    refine W.seq (W.region (L.y rfl (Y.move rfl) ?_))
    refine L.y rfl (Y.lenM (g := TOp.row) (l := a0) Try.underlying22 rfl (fun w' hw => hA0.cls0 hw)) ?_
    refine L.y rfl (Y.move rfl) ?_
    refine L.nil (E.thenN (W.block (W.loopJ (fun m gs D => ∃ (gx4 : Int) (gl5 : (List (List Int))) (gq6 : Nat → List Value) (gl7 : (List (List Int))) (gq8 : Nat → List Value) (gl9 : (List Int)) (gb10 : Bool) (gb11 : Bool) (gb12 : Bool), gs = [(2, pt b1 0), (5, pt b2 0), (6, pt b3 0), (7, pt b6 0), (8, pt b7 0), (25, u0), (26, .int .i64 (a0.length : Int)), (27, .int .i64 gx4)] ∧ D = Cls w [] [.obj b7 (zr svRow gq6 gl5).flatten 94, .ss (zs (svSd 3 1 I) gq6 gl5), .obj b6 (zr svRow gq8 gl7).flatten 93, .ss (zs (svSd 3 1 I) gq8 gl7), .obj b3 ((gl9.map I).flatten) 92, .obj b2 [.bool gb10, .bool gb11, .bool gb12] 32, .obj b1 [.bool false, .bool false, .bool false] 32] ∧ m11_run_Kinds_L1 a0 m gx4 gl5 gl7 gl9 gb10 gb11 gb12 = some r) ⟨0, (List.replicate 12 ([] : (List Int))), (fun _ => [nilV]), (List.replicate 20 ([] : (List Int))), (fun _ => [nilV]), (List.replicate 12 (0 : Int)), true, true, true, rfl, rfl, h⟩ ⟨rfl, rfl, rfl, rfl, rfl, rfl, rfl, rfl, trivial⟩ (fun _ hw => hw) ?_)))
    rintro m _ _ ⟨gx4, gl5, gq6, gl7, gq8, gl9, gb10, gb11, gb12, rfl, rfl, h⟩
    rcases m with _ | m
    · rw [m11_run_Kinds_L1] at h; cases h
    rw [m11_run_Kinds_L1] at h
    generalize hg1 : m11_run_Kinds_L1 a0 m = go1 at h
    rw [m11_run_Kinds_L1B] at h
    refine W.seq (W.region (L.ite h rfl (Y.lss rfl rfl) (fun c8 h => ?_) (fun c8 h => ?_)))
    ·
     refine L.nil (E.thenN (W.seq (W.condT rfl ?_)))
     refine W.skip (E.thenN (W.seqJ (fun gs D => ∃ (gl13 : (List (List Int))) (gq14 : Nat → List Value) (gl15 : (List (List Int))) (gq16 : Nat → List Value) (gl17 : (List Int)) (gb18 : Bool) (gb19 : Bool) (gb20 : Bool), gs = [(2, pt b1 0), (5, pt b2 0), (6, pt b3 0), (7, pt b6 0), (8, pt b7 0), (25, u0), (26, .int .i64 (a0.length : Int)), (27, .int .i64 gx4)] ∧ D = Cls w [] [.obj b7 (zr svRow gq14 gl13).flatten 94, .ss (zs (svSd 3 1 I) gq14 gl13), .obj b6 (zr svRow gq16 gl15).flatten 93, .ss (zs (svSd 3 1 I) gq16 gl15), .obj b3 ((gl17.map I).flatten) 92, .obj b2 [.bool gb18, .bool gb19, .bool gb20] 32, .obj b1 [.bool false, .bool false, .bool false] 32] ∧ m11_run_Kinds_K3 gx4 go1 gl13 gl15 gl17 gb18 gb19 gb20 = some r) ?_ ?_))
     ·
      refine W.block (W.seq (W.region (L.m (V := fun _ => el u0 (gx4.toNat * 3)) h rfl (Y.indexM (g := TOp.row) (l := a0) Try.underlying22 sz83 rfl rfl (fun w' hw => hA0.cls0 hw)) (fun x10 ex10 h => ?_))))
      refine L.y rfl (Y.loadEN (r := [.int .i64 x10.Tx, .int .i64 x10.Kind, .int .i64 x10.Item]) ag83 sz83 rfl (fun w' hw => hA0.cls0 hw) (idx_map ex10) rfl) ?_
      refine L.alloc rfl ze83 ?_
      intro b11
      refine L.store (i := 0) sz83 rfl rfl rfl rfl (by simp [Value.oneCell', Value.cells, st]) rfl (Nat.le_of_ble_eq_true rfl) ?_
      refine L.nil (E.thenN (W.seq (W.region (L.y rfl (Y.fieldP fd83_1 rfl) ?_))))
      refine L.y rfl (Y.loadP (i := 0) ag3 rfl rfl rfl) ?_
      refine L.nil (E.thenN (W.block (W.seqJ (fun gs D => ∃ (gb21 : Bool), gs = [(2, pt b1 0), (5, pt b2 0), (6, pt b3 0), (7, pt b6 0), (8, pt b7 0), (10, pt b11 0), (25, u0), (26, .int .i64 (a0.length : Int)), (27, .int .i64 gx4), (32, .int .i64 x10.Kind), (105, .bool gb21)] ∧ D = Cls w [] [.obj b11 [.int .i64 x10.Tx, .int .i64 x10.Kind, .int .i64 x10.Item] 83, .obj b7 (zr svRow gq6 gl5).flatten 94, .ss (zs (svSd 3 1 I) gq6 gl5), .obj b6 (zr svRow gq8 gl7).flatten 93, .ss (zs (svSd 3 1 I) gq8 gl7), .obj b3 ((gl9.map I).flatten) 92, .obj b2 [.bool gb10, .bool gb11, .bool gb12] 32, .obj b1 [.bool false, .bool false, .bool false] 32] ∧ m11_run_Kinds_K4 gl5 x10 gl9 gx4 go1 gl7 gb11 gb12 gb10 gb21 = some r) ?_ ?_)))
      ·
       refine W.region (L.ite h rfl (Y.eql rfl rfl) (fun c109 h => ?_) (fun c109 h => ?_))
       ·
        refine L.y rfl (Y.assign rfl) ?_
        exact L.nil (E.joinJ ⟨true, rfl, rfl, h⟩ ⟨rfl, rfl, rfl, rfl, rfl, rfl, rfl, rfl, rfl, rfl, rfl, trivial⟩ (fun _ hw => hw))
       ·
        refine L.y rfl (Y.assign rfl) ?_
        exact L.nil (E.joinJ ⟨false, rfl, rfl, h⟩ ⟨rfl, rfl, rfl, rfl, rfl, rfl, rfl, rfl, rfl, rfl, rfl, trivial⟩ (fun _ hw => hw))
      ·
       rintro _ _ ⟨gb21, rfl, rfl, h⟩
       rw [m11_run_Kinds_K4] at h
       rcases gb21 with _ | _
       ·
        replace h := iteF h
        refine W.condF rfl ?_
        refine W.seqJ (fun gs D => ∃ (gb22 : Bool), gs = [(2, pt b1 0), (5, pt b2 0), (6, pt b3 0), (7, pt b6 0), (8, pt b7 0), (10, pt b11 0), (25, u0), (26, .int .i64 (a0.length : Int)), (27, .int .i64 gx4), (129, .bool gb22)] ∧ D = Cls w [] [.obj b11 [.int .i64 x10.Tx, .int .i64 x10.Kind, .int .i64 x10.Item] 83, .obj b7 (zr svRow gq6 gl5).flatten 94, .ss (zs (svSd 3 1 I) gq6 gl5), .obj b6 (zr svRow gq8 gl7).flatten 93, .ss (zs (svSd 3 1 I) gq8 gl7), .obj b3 ((gl9.map I).flatten) 92, .obj b2 [.bool gb10, .bool gb11, .bool gb12] 32, .obj b1 [.bool false, .bool false, .bool false] 32] ∧ m11_run_Kinds_K5 gl9 x10 gx4 go1 gl5 gb10 gb11 gb12 gl7 gb22 = some r) ?_ ?_
        ·
         refine W.region (L.ite h rfl (Y.eql rfl rfl) (fun c99 h => ?_) (fun c99 h => ?_))
         ·
          refine L.y rfl (Y.assign rfl) ?_
          exact L.nil (E.joinJ ⟨true, rfl, rfl, h⟩ ⟨rfl, rfl, rfl, rfl, rfl, rfl, rfl, rfl, rfl, rfl, trivial⟩ (fun _ hw => hw))
         ·
          refine L.y rfl (Y.assign rfl) ?_
          exact L.nil (E.joinJ ⟨false, rfl, rfl, h⟩ ⟨rfl, rfl, rfl, rfl, rfl, rfl, rfl, rfl, rfl, rfl, trivial⟩ (fun _ hw => hw))
        ·
         rintro _ _ ⟨gb22, rfl, rfl, h⟩
         rw [m11_run_Kinds_K5] at h
         rcases gb22 with _ | _
         ·
          replace h := iteF h
          refine W.condF rfl ?_
          refine W.seqJ (fun gs D => ∃ (gl23 : (List (List Int))) (gq24 : Nat → List Value) (gb25 : Bool) (gb26 : Bool), gs = [(2, pt b1 0), (5, pt b2 0), (6, pt b3 0), (7, pt b6 0), (8, pt b7 0), (10, pt b11 0), (25, u0), (26, .int .i64 (a0.length : Int)), (27, .int .i64 gx4)] ∧ D = Cls w [] [.obj b11 [.int .i64 x10.Tx, .int .i64 x10.Kind, .int .i64 x10.Item] 83, .obj b7 (zr svRow gq24 gl23).flatten 94, .ss (zs (svSd 3 1 I) gq24 gl23), .obj b6 (zr svRow gq8 gl7).flatten 93, .ss (zs (svSd 3 1 I) gq8 gl7), .obj b3 ((gl9.map I).flatten) 92, .obj b2 [.bool gb10, .bool gb25, .bool gb26] 32, .obj b1 [.bool false, .bool false, .bool false] 32] ∧ m11_run_Kinds_K6 x10 gl7 gx4 go1 gl9 gb10 gl23 gb25 gb26 = some r) ?_ ?_
          ·
           refine W.seq (W.region (L.y rfl (Y.fieldP fd83_2 rfl) ?_))
           refine L.y rfl (Y.loadP (i := 0) ag3 rfl rfl rfl) ?_
           refine L.m (V := fun _ => pt b6 (0 + x10.Item.toNat * 1)) h rfl (Y.indexAM (l := gl7) Try.underlying93 sz28 rfl rfl) (fun x38 ex38 h => ?_)
           refine L.y rfl (Y.loadZ (q := 3) (row := svRow) (vs := gq8) (j := 0) (pv := gv (gq8 x10.Item.toNat) 0) ag28 rfl rfl rfl (fun _ _ => rfl) (idxA_idx ex38) rfl) ?_
           refine L.y rfl (Y.lenM (g := I) (l := x38) Try.underlying28 rfl (fun w hw => As.atZ (sds := (svSd 3 1 I)) (vs := gq8) (j := 0) (hw.get (i := 4) rfl) (fun _ _ => rfl) (idxA_idx ex38) rfl)) ?_
           refine L.y rfl (Y.assign rfl) ?_
           refine L.nil (E.thenN (W.seq (W.region (L.y rfl (Y.move rfl) ?_))))
           refine L.ite h rfl (Y.gtr rfl rfl) (fun c39 h => ?_) (fun c39 h => ?_)
           ·
            refine L.nil (E.thenN (W.condT rfl ?_))
            refine W.seq (W.region (L.y rfl (Y.fieldP fd83_2 rfl) ?_))
            refine L.y rfl (Y.loadP (i := 0) ag3 rfl rfl rfl) ?_
            refine L.m (V := fun _ => pt b6 (0 + x10.Item.toNat * 1)) h rfl (Y.indexAM (l := gl7) Try.underlying93 sz28 rfl rfl) (fun x40 ex40 h => ?_)
            refine L.y rfl (Y.loadZ (q := 3) (row := svRow) (vs := gq8) (j := 0) (pv := gv (gq8 x10.Item.toNat) 0) ag28 rfl rfl rfl (fun _ _ => rfl) (idxA_idx ex40) rfl) ?_
            refine L.y rfl (Y.move rfl) ?_
            refine L.m (V := fun x41 => .int .i64 x41) h rfl (Y.subM rfl rfl) (fun x41 ex41 h => ?_)
            refine L.m (V := fun _ => el (gv (gq8 x10.Item.toNat) 0) (x41.toNat * 1)) h rfl (Y.indexM (g := I) (l := x40) Try.underlying28 sz3 rfl rfl (fun w hw => As.atZ (sds := (svSd 3 1 I)) (vs := gq8) (j := 0) (hw.get (i := 4) rfl) (fun _ _ => rfl) (idxA_idx ex40) rfl)) (fun x42 ex42 h => ?_)
            refine L.y rfl (Y.loadE1 (u := .int .i64 x42) ag3 rfl (fun w hw => As.atZ (sds := (svSd 3 1 I)) (vs := gq8) (j := 0) (hw.get (i := 4) rfl) (fun _ _ => rfl) (idxA_idx ex40) rfl) (idx_map ex42)) ?_
            refine L.y rfl (Y.assign rfl) ?_
            refine L.nil (E.thenN (W.seqJ (fun gs D => ∃ (gb27 : Bool), gs = [(2, pt b1 0), (5, pt b2 0), (6, pt b3 0), (7, pt b6 0), (8, pt b7 0), (10, pt b11 0), (15, .int .i64 x42), (16, .bool gb27), (25, u0), (26, .int .i64 (a0.length : Int)), (27, .int .i64 gx4)] ∧ D = Cls w [] [.obj b11 [.int .i64 x10.Tx, .int .i64 x10.Kind, .int .i64 x10.Item] 83, .obj b7 (zr svRow gq6 gl5).flatten 94, .ss (zs (svSd 3 1 I) gq6 gl5), .obj b6 (zr svRow gq8 gl7).flatten 93, .ss (zs (svSd 3 1 I) gq8 gl7), .obj b3 ((gl9.map I).flatten) 92, .obj b2 [.bool gb10, .bool gb11, .bool gb12] 32, .obj b1 [.bool false, .bool false, .bool false] 32] ∧ m11_run_Kinds_K7 gb12 x10 x42 gb11 gl5 gl7 gx4 go1 gl9 gb10 gb27 = some r) ?_ ?_))
            ·
             refine W.region (L.y rfl (Y.move rfl) ?_)
             refine L.y rfl (Y.fieldP fd83_0 rfl) ?_
             refine L.y rfl (Y.loadP (i := 0) ag3 rfl rfl rfl) ?_
             refine L.ite h rfl (Y.neq rfl rfl) (fun c72 h => ?_) (fun c72 h => ?_)
             ·
              refine L.y rfl (Y.move rfl) ?_
              refine L.take rfl (L.y rfl (Y.move rfl) ?_)
              refine L.take rfl (L.m (V := fun _ => pt b3 (0 + x42.toNat * 1)) h rfl (Y.indexAM (l := gl9) Try.underlying92 sz3 rfl rfl) (fun x73 ex73 h => ?_))
              refine L.take rfl (L.y rfl (Y.loadAr (q := 5) (row := I) (j := 0) (p := .int .i64 x73) ag3 rfl rfl rfl (fun _ => rfl) (idxA_idx ex73) rfl) ?_)
              refine L.take rfl (L.y rfl (Y.eql rfl rfl) ?_)
              refine L.y rfl (Y.pickT rfl rfl) ?_
              refine L.y rfl (Y.assign rfl) ?_
              exact L.nil (E.joinJ ⟨decide (x73 = 0), rfl, rfl, h⟩ ⟨rfl, rfl, rfl, rfl, rfl, rfl, rfl, rfl, rfl, rfl, rfl, trivial⟩ (fun _ hw => hw))
             ·
              refine L.y rfl (Y.move rfl) ?_
              refine L.pass rfl rfl (by nofun) ?_
              refine L.pass rfl rfl (by nofun) ?_
              refine L.pass rfl rfl (by nofun) ?_
              refine L.pass rfl rfl (by nofun) ?_
              refine L.y rfl (Y.pickF rfl rfl) ?_
              refine L.y rfl (Y.assign rfl) ?_
              exact L.nil (E.joinJ ⟨false, rfl, rfl, h⟩ ⟨rfl, rfl, rfl, rfl, rfl, rfl, rfl, rfl, rfl, rfl, rfl, trivial⟩ (fun _ hw => hw))
            ·
             rintro _ _ ⟨gb27, rfl, rfl, h⟩
             rw [m11_run_Kinds_K7] at h
             refine W.seqJ (fun gs D => ∃ (gb28 : Bool), gs = [(2, pt b1 0), (5, pt b2 0), (6, pt b3 0), (7, pt b6 0), (8, pt b7 0), (10, pt b11 0), (15, .int .i64 x42), (16, .bool gb27), (25, u0), (26, .int .i64 (a0.length : Int)), (27, .int .i64 gx4)] ∧ D = Cls w [] [.obj b11 [.int .i64 x10.Tx, .int .i64 x10.Kind, .int .i64 x10.Item] 83, .obj b7 (zr svRow gq6 gl5).flatten 94, .ss (zs (svSd 3 1 I) gq6 gl5), .obj b6 (zr svRow gq8 gl7).flatten 93, .ss (zs (svSd 3 1 I) gq8 gl7), .obj b3 ((gl9.map I).flatten) 92, .obj b2 [.bool gb10, .bool gb11, .bool gb28] 32, .obj b1 [.bool false, .bool false, .bool false] 32] ∧ m11_run_Kinds_K8 x10 x42 gb11 gl5 gl7 gx4 go1 gl9 gb10 gb27 gb28 = some r) ?_ ?_
             ·
              refine W.region (L.y rfl (Y.fieldP fd32_2 rfl) ?_)
              refine L.iteB h rfl (Y.loadP (i := 6) ag4 rfl rfl rfl) (fun c71 h => ?_) (fun c71 h => ?_)
              ·
               refine L.y rfl (Y.move rfl) ?_
               refine L.take rfl (L.y rfl (Y.move rfl) ?_)
               refine L.take rfl (L.y rfl (Y.not rfl) ?_)
               refine L.y rfl (Y.pickT rfl rfl) ?_
               refine L.y rfl (Y.fieldP fd32_2 rfl) ?_
               refine L.store (i := 6) sz4 rfl rfl rfl rfl (by simp [Value.oneCell', Value.cells, st]) rfl (Nat.le_of_ble_eq_true rfl) ?_
               exact L.nil (E.joinJ ⟨(!gb27), rfl, rfl, h⟩ ⟨rfl, rfl, rfl, rfl, rfl, rfl, rfl, rfl, rfl, rfl, rfl, trivial⟩ (fun _ hw => hw))
              ·
               refine L.y rfl (Y.move rfl) ?_
               refine L.pass rfl rfl (by nofun) ?_
               refine L.pass rfl rfl (by nofun) ?_
               refine L.y rfl (Y.pickF rfl rfl) ?_
               refine L.y rfl (Y.fieldP fd32_2 rfl) ?_
               refine L.store (i := 6) sz4 rfl rfl rfl rfl (by simp [Value.oneCell', Value.cells, st]) rfl (Nat.le_of_ble_eq_true rfl) ?_
               exact L.nil (E.joinJ ⟨false, rfl, rfl, h⟩ ⟨rfl, rfl, rfl, rfl, rfl, rfl, rfl, rfl, rfl, rfl, rfl, trivial⟩ (fun _ hw => hw))
             ·
              rintro _ _ ⟨gb28, rfl, rfl, h⟩
              rw [m11_run_Kinds_K8] at h
              refine W.seq (W.region (L.y rfl (Y.fieldP fd83_1 rfl) ?_))
              refine L.y rfl (Y.loadP (i := 0) ag3 rfl rfl rfl) ?_
              refine L.ite h rfl (Y.eql rfl rfl) (fun c43 h => ?_) (fun c43 h => ?_)
              ·
               refine L.y rfl (Y.move rfl) ?_
               refine L.take rfl (L.y rfl (Y.move rfl) ?_)
               refine L.take rfl (L.y rfl (Y.fieldP fd83_0 rfl) ?_)
               refine L.take rfl (L.y rfl (Y.loadP (i := 0) ag3 rfl rfl rfl) ?_)
               refine L.take rfl (L.ite h rfl (Y.neq rfl rfl) (fun c44 h => ?_) (fun c44 h => ?_))
               ·
                refine L.y rfl (Y.pickT rfl rfl) ?_
                refine L.nil (E.thenN (W.condT rfl ?_))
                refine W.seqJ (fun gs D => ∃ (gb29 : Bool), gs = [(2, pt b1 0), (5, pt b2 0), (6, pt b3 0), (7, pt b6 0), (8, pt b7 0), (10, pt b11 0), (15, .int .i64 x42), (25, u0), (26, .int .i64 (a0.length : Int)), (27, .int .i64 gx4)] ∧ D = Cls w [] [.obj b11 [.int .i64 x10.Tx, .int .i64 x10.Kind, .int .i64 x10.Item] 83, .obj b7 (zr svRow gq6 gl5).flatten 94, .ss (zs (svSd 3 1 I) gq6 gl5), .obj b6 (zr svRow gq8 gl7).flatten 93, .ss (zs (svSd 3 1 I) gq8 gl7), .obj b3 ((gl9.map I).flatten) 92, .obj b2 [.bool gb10, .bool gb29, .bool gb28] 32, .obj b1 [.bool false, .bool false, .bool false] 32] ∧ m11_run_Kinds_K9 gl5 x10 x42 gl7 gx4 go1 gl9 gb10 gb28 gb29 = some r) ?_ ?_
                ·
                 refine W.region (L.y rfl (Y.fieldP fd32_1 rfl) ?_)
                 refine L.iteB h rfl (Y.loadP (i := 6) ag4 rfl rfl rfl) (fun c70 h => ?_) (fun c70 h => ?_)
                 ·
                  refine L.y rfl (Y.move rfl) ?_
                  refine L.take rfl (L.y rfl (Y.move rfl) ?_)
                  refine L.take rfl (L.y rfl (Y.not rfl) ?_)
                  refine L.y rfl (Y.pickT rfl rfl) ?_
                  refine L.y rfl (Y.fieldP fd32_1 rfl) ?_
                  refine L.store (i := 6) sz4 rfl rfl rfl rfl (by simp [Value.oneCell', Value.cells, st]) rfl (Nat.le_of_ble_eq_true rfl) ?_
                  exact L.nil (E.joinJ ⟨(!gb27), rfl, rfl, h⟩ ⟨rfl, rfl, rfl, rfl, rfl, rfl, rfl, rfl, rfl, rfl, trivial⟩ (fun _ hw => hw))
                 ·
                  refine L.y rfl (Y.move rfl) ?_
                  refine L.pass rfl rfl (by nofun) ?_
                  refine L.pass rfl rfl (by nofun) ?_
                  refine L.y rfl (Y.pickF rfl rfl) ?_
                  refine L.y rfl (Y.fieldP fd32_1 rfl) ?_
                  refine L.store (i := 6) sz4 rfl rfl rfl rfl (by simp [Value.oneCell', Value.cells, st]) rfl (Nat.le_of_ble_eq_true rfl) ?_
                  exact L.nil (E.joinJ ⟨false, rfl, rfl, h⟩ ⟨rfl, rfl, rfl, rfl, rfl, rfl, rfl, rfl, rfl, rfl, trivial⟩ (fun _ hw => hw))
                ·
                 rintro _ _ ⟨gb29, rfl, rfl, h⟩
                 rw [m11_run_Kinds_K9] at h
                 refine W.drawn2 (k := 11) (stC [[8, 10], [10]] [Cls w [] [.obj b11 [.int .i64 x10.Tx, .int .i64 x10.Kind, .int .i64 x10.Item] 83, .obj b7 (zr svRow gq6 gl5).flatten 94, .ss (zs (svSd 3 1 I) gq6 gl5), .obj b6 (zr svRow gq8 gl7).flatten 93, .ss (zs (svSd 3 1 I) gq8 gl7), .obj b3 ((gl9.map I).flatten) 92, .obj b2 [.bool gb10, .bool gb29, .bool gb28] 32, .obj b1 [.bool false, .bool false, .bool false] 32], Cls w [] [.obj b11 [.int .i64 x10.Tx, .int .i64 x10.Kind, .int .i64 x10.Item] 83, .obj b7 (zr svRow gq6 gl5).flatten 94, .obj b6 (zr svRow gq8 gl7).flatten 93, .ss (zs (svSd 3 1 I) gq8 gl7), .obj b3 ((gl9.map I).flatten) 92, .obj b2 [.bool gb10, .bool gb29, .bool gb28] 32, .obj b1 [.bool false, .bool false, .bool false] 32]] (Cls w [] [.obj b11 [.int .i64 x10.Tx, .int .i64 x10.Kind, .int .i64 x10.Item] 83, .obj b6 (zr svRow gq8 gl7).flatten 93, .ss (zs (svSd 3 1 I) gq8 gl7), .obj b3 ((gl9.map I).flatten) 92, .obj b2 [.bool gb10, .bool gb29, .bool gb28] 32, .obj b1 [.bool false, .bool false, .bool false] 32])) rfl mixed (fun _ hw => hw.drew) (Sc.now (by kernel_rfl) (fun _ hw => hw)) ?_
                 refine V2.y (i := 0) (Nx2.of (Z := Cls w [] [.obj b11 [.int .i64 x10.Tx, .int .i64 x10.Kind, .int .i64 x10.Item] 83, .obj b6 (zr svRow gq8 gl7).flatten 93, .ss (zs (svSd 3 1 I) gq8 gl7), .obj b3 ((gl9.map I).flatten) 92, .obj b2 [.bool gb10, .bool gb29, .bool gb28] 32, .obj b1 [.bool false, .bool false, .bool false] 32]) [] (by kernel_rfl) rfl (Zc.on (fun _ hw => hw.sel [0, 3, 4, 5, 6, 7] (by decide) rfl) (Zc.on (fun _ hw => hw.sel [0, 2, 3, 4, 5, 6] (by decide) rfl) (Zc.fin (fun _ hw => hw))))) rfl rfl rfl (Y.fieldP fd83_0 rfl) ?_
                 refine V2.y (i := 1) (Nx2.of (Z := Cls w [] [.obj b11 [.int .i64 x10.Tx, .int .i64 x10.Kind, .int .i64 x10.Item] 83, .obj b6 (zr svRow gq8 gl7).flatten 93, .ss (zs (svSd 3 1 I) gq8 gl7), .obj b3 ((gl9.map I).flatten) 92, .obj b2 [.bool gb10, .bool gb29, .bool gb28] 32, .obj b1 [.bool false, .bool false, .bool false] 32]) [] (by kernel_rfl) rfl (Zc.on (fun _ hw => hw.sel [0, 3, 4, 5, 6, 7] (by decide) rfl) (Zc.on (fun _ hw => hw.sel [0, 2, 3, 4, 5, 6] (by decide) rfl) (Zc.fin (fun _ hw => hw))))) rfl rfl rfl (Y.loadP (i := 0) ag3 rfl rfl rfl) ?_
                 refine V2.y (i := 2) (Nx2.of (Z := Cls w [] [.obj b11 [.int .i64 x10.Tx, .int .i64 x10.Kind, .int .i64 x10.Item] 83, .obj b6 (zr svRow gq8 gl7).flatten 93, .ss (zs (svSd 3 1 I) gq8 gl7), .obj b3 ((gl9.map I).flatten) 92, .obj b2 [.bool gb10, .bool gb29, .bool gb28] 32, .obj b1 [.bool false, .bool false, .bool false] 32]) [] (by kernel_rfl) rfl (Zc.on (fun _ hw => hw.sel [0, 3, 4, 5, 6, 7] (by decide) rfl) (Zc.on (fun _ hw => hw.sel [0, 2, 3, 4, 5, 6] (by decide) rfl) (Zc.fin (fun _ hw => hw))))) rfl rfl rfl (Y.fieldP fd83_0 rfl) ?_
                 refine V2.y (i := 3) (Nx2.of (Z := Cls w [] [.obj b11 [.int .i64 x10.Tx, .int .i64 x10.Kind, .int .i64 x10.Item] 83, .obj b6 (zr svRow gq8 gl7).flatten 93, .ss (zs (svSd 3 1 I) gq8 gl7), .obj b3 ((gl9.map I).flatten) 92, .obj b2 [.bool gb10, .bool gb29, .bool gb28] 32, .obj b1 [.bool false, .bool false, .bool false] 32]) [] (by kernel_rfl) rfl (Zc.on (fun _ hw => hw.sel [0, 3, 4, 5, 6, 7] (by decide) rfl) (Zc.on (fun _ hw => hw.sel [0, 2, 3, 4, 5, 6] (by decide) rfl) (Zc.fin (fun _ hw => hw))))) rfl rfl rfl (Y.loadP (i := 0) ag3 rfl rfl rfl) ?_
                 refine V2.m (i := 4) (V' := fun _ => pt b7 (0 + x10.Tx.toNat * 1)) h (Nx2.of (Z := Cls w [] [.obj b11 [.int .i64 x10.Tx, .int .i64 x10.Kind, .int .i64 x10.Item] 83, .obj b7 (zr svRow gq6 gl5).flatten 94, .obj b6 (zr svRow gq8 gl7).flatten 93, .ss (zs (svSd 3 1 I) gq8 gl7), .obj b3 ((gl9.map I).flatten) 92, .obj b2 [.bool gb10, .bool gb29, .bool gb28] 32, .obj b1 [.bool false, .bool false, .bool false] 32]) [10] (by kernel_rfl) rfl (Zc.on (fun _ hw => hw.sel [0, 1, 3, 4, 5, 6, 7] (by decide) rfl) (Zc.at1 (fun _ hw => hw)))) rfl rfl rfl (Y.indexAM (l := gl5) Try.underlying94 sz28 rfl rfl) (fun x63 ex63 h => ?_)
                 refine V2.y (i := 5) (Nx2.of (Z := Cls w [] [.obj b11 [.int .i64 x10.Tx, .int .i64 x10.Kind, .int .i64 x10.Item] 83, .obj b7 (zr svRow gq6 gl5).flatten 94, .obj b6 (zr svRow gq8 gl7).flatten 93, .ss (zs (svSd 3 1 I) gq8 gl7), .obj b3 ((gl9.map I).flatten) 92, .obj b2 [.bool gb10, .bool gb29, .bool gb28] 32, .obj b1 [.bool false, .bool false, .bool false] 32]) [10] (by kernel_rfl) rfl (Zc.on (fun _ hw => hw.sel [0, 1, 3, 4, 5, 6, 7] (by decide) rfl) (Zc.at1 (fun _ hw => hw)))) rfl rfl rfl (Y.loadZ (q := 1) (row := svRow) (vs := gq6) (j := 0) (pv := gv (gq6 x10.Tx.toNat) 0) ag28 rfl rfl rfl (fun _ _ => rfl) (idxA_idx ex63) rfl) ?_
                 refine V2.y (i := 6) (Nx2.of (Z := Cls w [] [.obj b11 [.int .i64 x10.Tx, .int .i64 x10.Kind, .int .i64 x10.Item] 83, .obj b6 (zr svRow gq8 gl7).flatten 93, .ss (zs (svSd 3 1 I) gq8 gl7), .obj b3 ((gl9.map I).flatten) 92, .obj b2 [.bool gb10, .bool gb29, .bool gb28] 32, .obj b1 [.bool false, .bool false, .bool false] 32]) [] (by kernel_rfl) rfl (Zc.on (fun _ hw => hw.sel [0, 3, 4, 5, 6, 7] (by decide) rfl) (Zc.on (fun _ hw => hw.sel [0, 2, 3, 4, 5, 6] (by decide) rfl) (Zc.fin (fun _ hw => hw))))) rfl rfl rfl (Y.move rfl) ?_
                 refine V2.eff (i := 7) (by kernel_rfl) rfl ?_
                 refine L.litOne rfl Try.underlying28 el3 rfl rfl ?_
                 intro b64
                 refine L.nil (E.toV2 (stC [[8, 10], [10]] [Cls w [] [.sl (sv b64 1) 3 1 (([x42]).map I), .obj b11 [.int .i64 x10.Tx, .int .i64 x10.Kind, .int .i64 x10.Item] 83, .obj b7 (zr svRow gq6 gl5).flatten 94, .ss (zs (svSd 3 1 I) gq6 gl5), .obj b6 (zr svRow gq8 gl7).flatten 93, .ss (zs (svSd 3 1 I) gq8 gl7), .obj b3 ((gl9.map I).flatten) 92, .obj b2 [.bool gb10, .bool gb29, .bool gb28] 32, .obj b1 [.bool false, .bool false, .bool false] 32], Cls w [] [.sl (sv b64 1) 3 1 (([x42]).map I), .obj b11 [.int .i64 x10.Tx, .int .i64 x10.Kind, .int .i64 x10.Item] 83, .obj b7 (zr svRow gq6 gl5).flatten 94, .obj b6 (zr svRow gq8 gl7).flatten 93, .ss (zs (svSd 3 1 I) gq8 gl7), .obj b3 ((gl9.map I).flatten) 92, .obj b2 [.bool gb10, .bool gb29, .bool gb28] 32, .obj b1 [.bool false, .bool false, .bool false] 32]] (Cls w [] [.sl (sv b64 1) 3 1 (([x42]).map I), .obj b11 [.int .i64 x10.Tx, .int .i64 x10.Kind, .int .i64 x10.Item] 83, .obj b6 (zr svRow gq8 gl7).flatten 93, .ss (zs (svSd 3 1 I) gq8 gl7), .obj b3 ((gl9.map I).flatten) 92, .obj b2 [.bool gb10, .bool gb29, .bool gb28] 32, .obj b1 [.bool false, .bool false, .bool false] 32])) 7 (by kernel_rfl) (Sc.stay (fun _ hw => hw.sel [1, 2, 3, 4, 5, 6, 7, 8] (by decide) rfl) (Sc.stay (fun _ hw => hw.sel [1, 2, 3, 4, 5, 6, 7] (by decide) rfl) (Sc.stayD (fun _ hw => hw.sel [1, 2, 3, 4, 5, 6] (by decide) rfl)))) (Sc.now (by kernel_rfl) (fun _ hw => hw)) ?_)
                 refine V2.eff (i := 8) (by kernel_rfl) rfl ?_
                 refine L.ssOut (sds := (svSd 3 1 I)) (vs := gq6) (s := 3) (j := 0) (c := 1) rfl (fun _ _ => rfl) (idxA_idx ex63) rfl ?_
                 refine L.appM (i := 0) (g := I) (l := x63) (more := [x42]) h rfl Try.underlying28 el3 rfl rfl rfl (fun w hw => As.at_ (hw.get (i := 1) rfl)) (plain_ints _) rfl ?_
                 intro v65 l66 el66 h
                 refine L.nil (E.toV2 (stC [[10]] [Cls w [] [.sl v65 3 1 (l66.map I), .sl (sv b64 1) 3 1 (([x42]).map I), .obj b11 [.int .i64 x10.Tx, .int .i64 x10.Kind, .int .i64 x10.Item] 83, .obj b7 (zr svRow gq6 gl5).flatten 94, .obj b6 (zr svRow gq8 gl7).flatten 93, .ss (zs (svSd 3 1 I) gq8 gl7), .obj b3 ((gl9.map I).flatten) 92, .obj b2 [.bool gb10, .bool gb29, .bool gb28] 32, .obj b1 [.bool false, .bool false, .bool false] 32]] (Cls w [] [.sl (sv b64 1) 3 1 (([x42]).map I), .obj b11 [.int .i64 x10.Tx, .int .i64 x10.Kind, .int .i64 x10.Item] 83, .obj b6 (zr svRow gq8 gl7).flatten 93, .ss (zs (svSd 3 1 I) gq8 gl7), .obj b3 ((gl9.map I).flatten) 92, .obj b2 [.bool gb10, .bool gb29, .bool gb28] 32, .obj b1 [.bool false, .bool false, .bool false] 32])) 8 (by kernel_rfl) (Sc.past rfl (Sc.stay (fun _ hw => hw.sel [1, 2, 3, 4, 5, 6, 7, 8] (by decide) rfl) (Sc.stayD (fun _ hw => hw)))) (Sc.now (by kernel_rfl) (fun _ hw => hw.sel [0, 1, 2, 3, 5, 6, 7, 8, 9] (by decide) rfl)) ?_)
                 refine V2.m (i := 9) (V' := fun _ => pt b7 (0 + x10.Tx.toNat * 1)) h (Nx2.of (Z := Cls w [] [.sl v65 3 1 (l66.map I), .sl (sv b64 1) 3 1 (([x42]).map I), .obj b11 [.int .i64 x10.Tx, .int .i64 x10.Kind, .int .i64 x10.Item] 83, .obj b7 (zr svRow gq6 gl5).flatten 94, .obj b6 (zr svRow gq8 gl7).flatten 93, .ss (zs (svSd 3 1 I) gq8 gl7), .obj b3 ((gl9.map I).flatten) 92, .obj b2 [.bool gb10, .bool gb29, .bool gb28] 32, .obj b1 [.bool false, .bool false, .bool false] 32]) [10] (by kernel_rfl) rfl (Zc.at1 (fun _ hw => hw))) rfl rfl rfl (Y.indexAM (l := gl5) Try.underlying94 sz28 rfl rfl) (fun x67 ex67 h => ?_)
                 refine V2.eff (i := 10) (by kernel_rfl) rfl ?_
                 refine L.storeZS (row := svRow) (sds := (svSd 3 1 I)) (vs := gq6) (q := 3) (p := 0) (s := 4) (c := 1) (jj := 0) (u1 := l66) (v1 := [v65]) (j := 0) h sz28 rfl rfl rfl rfl rfl rfl (.inr rfl) (fun _ _ => rfl) (fun _ _ => rfl) (idxA_idx ex67) rfl rfl rfl rfl ?_
                 intro l68 q69 el68 h
                 refine L.nil (E.toV2 (stC [] [] (Cls w [] [.sl (sv b64 1) 3 1 (([x42]).map I), .obj b11 [.int .i64 x10.Tx, .int .i64 x10.Kind, .int .i64 x10.Item] 83, .obj b6 (zr svRow gq8 gl7).flatten 93, .ss (zs (svSd 3 1 I) gq8 gl7), .obj b3 ((gl9.map I).flatten) 92, .obj b2 [.bool gb10, .bool gb29, .bool gb28] 32, .obj b1 [.bool false, .bool false, .bool false] 32])) 10 (by kernel_rfl) (Sc.past rfl (Sc.stayD (fun _ hw => hw))) (Sc.atD (fun _ hw => hw.sel [0, 1, 4, 5, 6, 7, 8] (by decide) rfl)) ?_)
                 refine V2.done (by kernel_rfl) ?_
                 exact E.joinJ ⟨l68, q69, gb29, gb28, rfl, rfl, h⟩ ⟨rfl, rfl, rfl, rfl, rfl, rfl, rfl, rfl, rfl, trivial⟩ (fun _ hw => hw.sel [1, 2, 3, 4, 5, 6, 7, 8] (by decide) rfl)
               ·
                refine L.y rfl (Y.pickT rfl rfl) ?_
                refine L.nil (E.thenN (W.condF rfl ?_))
                exact W.skip (E.joinJ ⟨gl5, gq6, gb11, gb28, rfl, rfl, h⟩ ⟨rfl, rfl, rfl, rfl, rfl, rfl, rfl, rfl, rfl, trivial⟩ (fun _ hw => hw))
              ·
               refine L.y rfl (Y.move rfl) ?_
               refine L.pass rfl rfl (by nofun) ?_
               refine L.pass rfl rfl (by nofun) ?_
               refine L.pass rfl rfl (by nofun) ?_
               refine L.pass rfl rfl (by nofun) ?_
               refine L.y rfl (Y.pickF rfl rfl) ?_
               refine L.nil (E.thenN (W.condF rfl ?_))
               exact W.skip (E.joinJ ⟨gl5, gq6, gb11, gb28, rfl, rfl, h⟩ ⟨rfl, rfl, rfl, rfl, rfl, rfl, rfl, rfl, rfl, trivial⟩ (fun _ hw => hw))
           ·
            refine L.nil (E.thenN (W.condF rfl ?_))
            exact W.skip (E.joinJ ⟨gl5, gq6, gb11, gb12, rfl, rfl, h⟩ ⟨rfl, rfl, rfl, rfl, rfl, rfl, rfl, rfl, rfl, trivial⟩ (fun _ hw => hw))
          ·
           rintro _ _ ⟨gl23, gq24, gb25, gb26, rfl, rfl, h⟩
           rw [m11_run_Kinds_K6] at h
           refine W.seq (W.region (L.y rfl (Y.fieldP fd83_1 rfl) ?_))
           refine L.y rfl (Y.loadP (i := 0) ag3 rfl rfl rfl) ?_
           refine L.ite h rfl (Y.eql rfl rfl) (fun c12 h => ?_) (fun c12 h => ?_)
           ·
            refine L.nil (E.thenN (W.condT rfl ?_))
            refine W.drawn2 (k := 12) (stC [[9, 11], [11]] [Cls w [] [.obj b11 [.int .i64 x10.Tx, .int .i64 x10.Kind, .int .i64 x10.Item] 83, .obj b7 (zr svRow gq24 gl23).flatten 94, .ss (zs (svSd 3 1 I) gq24 gl23), .obj b6 (zr svRow gq8 gl7).flatten 93, .ss (zs (svSd 3 1 I) gq8 gl7), .obj b3 ((gl9.map I).flatten) 92, .obj b2 [.bool gb10, .bool gb25, .bool gb26] 32, .obj b1 [.bool false, .bool false, .bool false] 32], Cls w [] [.obj b11 [.int .i64 x10.Tx, .int .i64 x10.Kind, .int .i64 x10.Item] 83, .obj b7 (zr svRow gq24 gl23).flatten 94, .ss (zs (svSd 3 1 I) gq24 gl23), .obj b6 (zr svRow gq8 gl7).flatten 93, .obj b3 ((gl9.map I).flatten) 92, .obj b2 [.bool gb10, .bool gb25, .bool gb26] 32, .obj b1 [.bool false, .bool false, .bool false] 32]] (Cls w [] [.obj b11 [.int .i64 x10.Tx, .int .i64 x10.Kind, .int .i64 x10.Item] 83, .obj b7 (zr svRow gq24 gl23).flatten 94, .ss (zs (svSd 3 1 I) gq24 gl23), .obj b3 ((gl9.map I).flatten) 92, .obj b2 [.bool gb10, .bool gb25, .bool gb26] 32, .obj b1 [.bool false, .bool false, .bool false] 32])) rfl mixed (fun _ hw => hw.drew) (Sc.now (by kernel_rfl) (fun _ hw => hw)) ?_
            refine V2.y (i := 0) (Nx2.of (Z := Cls w [] [.obj b11 [.int .i64 x10.Tx, .int .i64 x10.Kind, .int .i64 x10.Item] 83, .obj b7 (zr svRow gq24 gl23).flatten 94, .ss (zs (svSd 3 1 I) gq24 gl23), .obj b3 ((gl9.map I).flatten) 92, .obj b2 [.bool gb10, .bool gb25, .bool gb26] 32, .obj b1 [.bool false, .bool false, .bool false] 32]) [] (by kernel_rfl) rfl (Zc.on (fun _ hw => hw.sel [0, 1, 2, 5, 6, 7] (by decide) rfl) (Zc.on (fun _ hw => hw.sel [0, 1, 2, 4, 5, 6] (by decide) rfl) (Zc.fin (fun _ hw => hw))))) rfl rfl rfl (Y.fieldP fd83_2 rfl) ?_
            refine V2.y (i := 1) (Nx2.of (Z := Cls w [] [.obj b11 [.int .i64 x10.Tx, .int .i64 x10.Kind, .int .i64 x10.Item] 83, .obj b7 (zr svRow gq24 gl23).flatten 94, .ss (zs (svSd 3 1 I) gq24 gl23), .obj b3 ((gl9.map I).flatten) 92, .obj b2 [.bool gb10, .bool gb25, .bool gb26] 32, .obj b1 [.bool false, .bool false, .bool false] 32]) [] (by kernel_rfl) rfl (Zc.on (fun _ hw => hw.sel [0, 1, 2, 5, 6, 7] (by decide) rfl) (Zc.on (fun _ hw => hw.sel [0, 1, 2, 4, 5, 6] (by decide) rfl) (Zc.fin (fun _ hw => hw))))) rfl rfl rfl (Y.loadP (i := 0) ag3 rfl rfl rfl) ?_
            refine V2.y (i := 2) (Nx2.of (Z := Cls w [] [.obj b11 [.int .i64 x10.Tx, .int .i64 x10.Kind, .int .i64 x10.Item] 83, .obj b7 (zr svRow gq24 gl23).flatten 94, .ss (zs (svSd 3 1 I) gq24 gl23), .obj b3 ((gl9.map I).flatten) 92, .obj b2 [.bool gb10, .bool gb25, .bool gb26] 32, .obj b1 [.bool false, .bool false, .bool false] 32]) [] (by kernel_rfl) rfl (Zc.on (fun _ hw => hw.sel [0, 1, 2, 5, 6, 7] (by decide) rfl) (Zc.on (fun _ hw => hw.sel [0, 1, 2, 4, 5, 6] (by decide) rfl) (Zc.fin (fun _ hw => hw))))) rfl rfl rfl (Y.fieldP fd83_2 rfl) ?_
            refine V2.y (i := 3) (Nx2.of (Z := Cls w [] [.obj b11 [.int .i64 x10.Tx, .int .i64 x10.Kind, .int .i64 x10.Item] 83, .obj b7 (zr svRow gq24 gl23).flatten 94, .ss (zs (svSd 3 1 I) gq24 gl23), .obj b3 ((gl9.map I).flatten) 92, .obj b2 [.bool gb10, .bool gb25, .bool gb26] 32, .obj b1 [.bool false, .bool false, .bool false] 32]) [] (by kernel_rfl) rfl (Zc.on (fun _ hw => hw.sel [0, 1, 2, 5, 6, 7] (by decide) rfl) (Zc.on (fun _ hw => hw.sel [0, 1, 2, 4, 5, 6] (by decide) rfl) (Zc.fin (fun _ hw => hw))))) rfl rfl rfl (Y.loadP (i := 0) ag3 rfl rfl rfl) ?_
            refine V2.m (i := 4) (V' := fun _ => pt b6 (0 + x10.Item.toNat * 1)) h (Nx2.of (Z := Cls w [] [.obj b11 [.int .i64 x10.Tx, .int .i64 x10.Kind, .int .i64 x10.Item] 83, .obj b7 (zr svRow gq24 gl23).flatten 94, .ss (zs (svSd 3 1 I) gq24 gl23), .obj b6 (zr svRow gq8 gl7).flatten 93, .obj b3 ((gl9.map I).flatten) 92, .obj b2 [.bool gb10, .bool gb25, .bool gb26] 32, .obj b1 [.bool false, .bool false, .bool false] 32]) [11] (by kernel_rfl) rfl (Zc.on (fun _ hw => hw.sel [0, 1, 2, 3, 5, 6, 7] (by decide) rfl) (Zc.at1 (fun _ hw => hw)))) rfl rfl rfl (Y.indexAM (l := gl7) Try.underlying93 sz28 rfl rfl) (fun x31 ex31 h => ?_)
            refine V2.y (i := 5) (Nx2.of (Z := Cls w [] [.obj b11 [.int .i64 x10.Tx, .int .i64 x10.Kind, .int .i64 x10.Item] 83, .obj b7 (zr svRow gq24 gl23).flatten 94, .ss (zs (svSd 3 1 I) gq24 gl23), .obj b6 (zr svRow gq8 gl7).flatten 93, .obj b3 ((gl9.map I).flatten) 92, .obj b2 [.bool gb10, .bool gb25, .bool gb26] 32, .obj b1 [.bool false, .bool false, .bool false] 32]) [11] (by kernel_rfl) rfl (Zc.on (fun _ hw => hw.sel [0, 1, 2, 3, 5, 6, 7] (by decide) rfl) (Zc.at1 (fun _ hw => hw)))) rfl rfl rfl (Y.loadZ (q := 3) (row := svRow) (vs := gq8) (j := 0) (pv := gv (gq8 x10.Item.toNat) 0) ag28 rfl rfl rfl (fun _ _ => rfl) (idxA_idx ex31) rfl) ?_
            refine V2.y (i := 6) (Nx2.of (Z := Cls w [] [.obj b11 [.int .i64 x10.Tx, .int .i64 x10.Kind, .int .i64 x10.Item] 83, .obj b7 (zr svRow gq24 gl23).flatten 94, .ss (zs (svSd 3 1 I) gq24 gl23), .obj b3 ((gl9.map I).flatten) 92, .obj b2 [.bool gb10, .bool gb25, .bool gb26] 32, .obj b1 [.bool false, .bool false, .bool false] 32]) [] (by kernel_rfl) rfl (Zc.on (fun _ hw => hw.sel [0, 1, 2, 5, 6, 7] (by decide) rfl) (Zc.on (fun _ hw => hw.sel [0, 1, 2, 4, 5, 6] (by decide) rfl) (Zc.fin (fun _ hw => hw))))) rfl rfl rfl (Y.fieldP fd83_0 rfl) ?_
            refine V2.y (i := 7) (Nx2.of (Z := Cls w [] [.obj b11 [.int .i64 x10.Tx, .int .i64 x10.Kind, .int .i64 x10.Item] 83, .obj b7 (zr svRow gq24 gl23).flatten 94, .ss (zs (svSd 3 1 I) gq24 gl23), .obj b3 ((gl9.map I).flatten) 92, .obj b2 [.bool gb10, .bool gb25, .bool gb26] 32, .obj b1 [.bool false, .bool false, .bool false] 32]) [] (by kernel_rfl) rfl (Zc.on (fun _ hw => hw.sel [0, 1, 2, 5, 6, 7] (by decide) rfl) (Zc.on (fun _ hw => hw.sel [0, 1, 2, 4, 5, 6] (by decide) rfl) (Zc.fin (fun _ hw => hw))))) rfl rfl rfl (Y.loadP (i := 0) ag3 rfl rfl rfl) ?_
            refine V2.eff (i := 8) (by kernel_rfl) rfl ?_
            refine L.litOne rfl Try.underlying28 el3 rfl rfl ?_
            intro b32
            refine L.nil (E.toV2 (stC [[9, 11], [11]] [Cls w [] [.sl (sv b32 1) 3 1 (([x10.Tx]).map I), .obj b11 [.int .i64 x10.Tx, .int .i64 x10.Kind, .int .i64 x10.Item] 83, .obj b7 (zr svRow gq24 gl23).flatten 94, .ss (zs (svSd 3 1 I) gq24 gl23), .obj b6 (zr svRow gq8 gl7).flatten 93, .ss (zs (svSd 3 1 I) gq8 gl7), .obj b3 ((gl9.map I).flatten) 92, .obj b2 [.bool gb10, .bool gb25, .bool gb26] 32, .obj b1 [.bool false, .bool false, .bool false] 32], Cls w [] [.sl (sv b32 1) 3 1 (([x10.Tx]).map I), .obj b11 [.int .i64 x10.Tx, .int .i64 x10.Kind, .int .i64 x10.Item] 83, .obj b7 (zr svRow gq24 gl23).flatten 94, .ss (zs (svSd 3 1 I) gq24 gl23), .obj b6 (zr svRow gq8 gl7).flatten 93, .obj b3 ((gl9.map I).flatten) 92, .obj b2 [.bool gb10, .bool gb25, .bool gb26] 32, .obj b1 [.bool false, .bool false, .bool false] 32]] (Cls w [] [.sl (sv b32 1) 3 1 (([x10.Tx]).map I), .obj b11 [.int .i64 x10.Tx, .int .i64 x10.Kind, .int .i64 x10.Item] 83, .obj b7 (zr svRow gq24 gl23).flatten 94, .ss (zs (svSd 3 1 I) gq24 gl23), .obj b3 ((gl9.map I).flatten) 92, .obj b2 [.bool gb10, .bool gb25, .bool gb26] 32, .obj b1 [.bool false, .bool false, .bool false] 32])) 8 (by kernel_rfl) (Sc.stay (fun _ hw => hw.sel [1, 2, 3, 4, 5, 6, 7, 8] (by decide) rfl) (Sc.stay (fun _ hw => hw.sel [1, 2, 3, 4, 5, 6, 7] (by decide) rfl) (Sc.stayD (fun _ hw => hw.sel [1, 2, 3, 4, 5, 6] (by decide) rfl)))) (Sc.now (by kernel_rfl) (fun _ hw => hw)) ?_)
            refine V2.eff (i := 9) (by kernel_rfl) rfl ?_
            refine L.ssOut (sds := (svSd 3 1 I)) (vs := gq8) (s := 5) (j := 0) (c := 1) rfl (fun _ _ => rfl) (idxA_idx ex31) rfl ?_
            refine L.appM (i := 0) (g := I) (l := x31) (more := [x10.Tx]) h rfl Try.underlying28 el3 rfl rfl rfl (fun w hw => As.at_ (hw.get (i := 1) rfl)) (plain_ints _) rfl ?_
            intro v33 l34 el34 h
            refine L.nil (E.toV2 (stC [[11]] [Cls w [] [.sl v33 3 1 (l34.map I), .sl (sv b32 1) 3 1 (([x10.Tx]).map I), .obj b11 [.int .i64 x10.Tx, .int .i64 x10.Kind, .int .i64 x10.Item] 83, .obj b7 (zr svRow gq24 gl23).flatten 94, .ss (zs (svSd 3 1 I) gq24 gl23), .obj b6 (zr svRow gq8 gl7).flatten 93, .obj b3 ((gl9.map I).flatten) 92, .obj b2 [.bool gb10, .bool gb25, .bool gb26] 32, .obj b1 [.bool false, .bool false, .bool false] 32]] (Cls w [] [.sl (sv b32 1) 3 1 (([x10.Tx]).map I), .obj b11 [.int .i64 x10.Tx, .int .i64 x10.Kind, .int .i64 x10.Item] 83, .obj b7 (zr svRow gq24 gl23).flatten 94, .ss (zs (svSd 3 1 I) gq24 gl23), .obj b3 ((gl9.map I).flatten) 92, .obj b2 [.bool gb10, .bool gb25, .bool gb26] 32, .obj b1 [.bool false, .bool false, .bool false] 32])) 9 (by kernel_rfl) (Sc.past rfl (Sc.stay (fun _ hw => hw.sel [1, 2, 3, 4, 5, 6, 7, 8] (by decide) rfl) (Sc.stayD (fun _ hw => hw)))) (Sc.now (by kernel_rfl) (fun _ hw => hw.sel [0, 1, 2, 3, 4, 5, 7, 8, 9] (by decide) rfl)) ?_)
            refine V2.m (i := 10) (V' := fun _ => pt b6 (0 + x10.Item.toNat * 1)) h (Nx2.of (Z := Cls w [] [.sl v33 3 1 (l34.map I), .sl (sv b32 1) 3 1 (([x10.Tx]).map I), .obj b11 [.int .i64 x10.Tx, .int .i64 x10.Kind, .int .i64 x10.Item] 83, .obj b7 (zr svRow gq24 gl23).flatten 94, .ss (zs (svSd 3 1 I) gq24 gl23), .obj b6 (zr svRow gq8 gl7).flatten 93, .obj b3 ((gl9.map I).flatten) 92, .obj b2 [.bool gb10, .bool gb25, .bool gb26] 32, .obj b1 [.bool false, .bool false, .bool false] 32]) [11] (by kernel_rfl) rfl (Zc.at1 (fun _ hw => hw))) rfl rfl rfl (Y.indexAM (l := gl7) Try.underlying93 sz28 rfl rfl) (fun x35 ex35 h => ?_)
            refine V2.eff (i := 11) (by kernel_rfl) rfl ?_
            refine L.storeZS (row := svRow) (sds := (svSd 3 1 I)) (vs := gq8) (q := 5) (p := 0) (s := 6) (c := 1) (jj := 0) (u1 := l34) (v1 := [v33]) (j := 0) h sz28 rfl rfl rfl rfl rfl rfl (.inr rfl) (fun _ _ => rfl) (fun _ _ => rfl) (idxA_idx ex35) rfl rfl rfl rfl ?_
            intro l36 q37 el36 h
            refine L.nil (E.toV2 (stC [] [] (Cls w [] [.sl (sv b32 1) 3 1 (([x10.Tx]).map I), .obj b11 [.int .i64 x10.Tx, .int .i64 x10.Kind, .int .i64 x10.Item] 83, .obj b7 (zr svRow gq24 gl23).flatten 94, .ss (zs (svSd 3 1 I) gq24 gl23), .obj b3 ((gl9.map I).flatten) 92, .obj b2 [.bool gb10, .bool gb25, .bool gb26] 32, .obj b1 [.bool false, .bool false, .bool false] 32])) 11 (by kernel_rfl) (Sc.past rfl (Sc.stayD (fun _ hw => hw))) (Sc.atD (fun _ hw => hw.sel [0, 1, 2, 3, 6, 7, 8] (by decide) rfl)) ?_)
            refine V2.done (by kernel_rfl) ?_
            exact E.blockN (E.blockN (E.joinJ ⟨gl23, gq24, l36, q37, gl9, gb10, gb25, gb26, rfl, rfl, h⟩ ⟨rfl, rfl, rfl, rfl, rfl, rfl, rfl, rfl, trivial⟩ (fun _ hw => hw.sel [2, 3, 4, 5, 6, 7, 8] (by decide) rfl)))
           ·
            refine L.nil (E.thenN (W.condF rfl ?_))
            exact W.skip (E.blockN (E.blockN (E.joinJ ⟨gl23, gq24, gl7, gq8, gl9, gb10, gb25, gb26, rfl, rfl, h⟩ ⟨rfl, rfl, rfl, rfl, rfl, rfl, rfl, rfl, trivial⟩ (fun _ hw => hw.sel [1, 2, 3, 4, 5, 6, 7] (by decide) rfl))))
         ·
          replace h := iteT h
          refine W.condT rfl ?_
          refine W.seq (W.region (L.y rfl (Y.fieldP fd83_0 rfl) ?_))
          refine L.y rfl (Y.loadP (i := 0) ag3 rfl rfl rfl) ?_
          refine L.m (V := fun _ => pt b3 (0 + x10.Tx.toNat * 1)) h rfl (Y.indexAM (l := gl9) Try.underlying92 sz3 rfl rfl) (fun x74 ex74 h => ?_)
          refine L.storeArM (q := 5) (row := I) (vs := [.int .i64 4]) (j := 0) (u1 := 4) h sz3 rfl rfl rfl rfl rfl (all1 rfl all0) rfl (fun _ => rfl) (idxA_idx ex74) rfl rfl ?_
          intro l75 el75 h
          refine L.nil (E.thenN (W.seq (W.region (L.y rfl (Y.move rfl) ?_))))
          refine L.nil (E.thenN (W.block (W.loopJ (fun m gs D => ∃ (gx30 : Int) (gl31 : (List (List Int))) (gq32 : Nat → List Value), gs = [(2, pt b1 0), (5, pt b2 0), (6, pt b3 0), (7, pt b6 0), (8, pt b7 0), (10, pt b11 0), (25, u0), (26, .int .i64 (a0.length : Int)), (27, .int .i64 gx4), (134, .int .i64 gx30)] ∧ D = Cls w [] [.obj b11 [.int .i64 x10.Tx, .int .i64 x10.Kind, .int .i64 x10.Item] 83, .obj b7 (zr svRow gq6 gl5).flatten 94, .ss (zs (svSd 3 1 I) gq6 gl5), .obj b6 (zr svRow gq32 gl31).flatten 93, .ss (zs (svSd 3 1 I) gq32 gl31), .obj b3 ((l75.map I).flatten) 92, .obj b2 [.bool gb10, .bool gb11, .bool gb12] 32, .obj b1 [.bool false, .bool false, .bool false] 32] ∧ m11_run_Kinds_L2 x10 gx4 go1 gl5 l75 gb10 gb11 gb12 m gx30 gl31 = some r) ⟨0, gl7, gq8, rfl, rfl, h⟩ ⟨rfl, rfl, rfl, rfl, rfl, rfl, rfl, rfl, rfl, rfl, trivial⟩ (fun _ hw => hw) ?_)))
          rintro m _ _ ⟨gx30, gl31, gq32, rfl, rfl, h⟩
          rcases m with _ | m
          · rw [m11_run_Kinds_L2] at h; cases h
          rw [m11_run_Kinds_L2] at h
          generalize hg2 : m11_run_Kinds_L2 x10 gx4 go1 gl5 l75 gb10 gb11 gb12 m = go2 at h
          rw [m11_run_Kinds_L2B] at h
          refine W.seq (W.region (L.ite h rfl (Y.lss rfl rfl) (fun c76 h => ?_) (fun c76 h => ?_)))
          ·
           refine L.nil (E.thenN (W.seq (W.condT rfl ?_)))
           refine W.skip (E.thenN (W.seq (W.block (W.seq (W.region (L.y rfl (Y.move rfl) ?_))))))
           refine L.y rfl (Y.assign rfl) ?_
           refine L.nil (E.thenN (W.region (L.y rfl (Y.move rfl) ?_)))
           refine L.y rfl (Y.move rfl) ?_
           refine L.m (V := fun _ => pt b6 (0 + gx30.toNat * 1)) h rfl (Y.indexAM (l := gl31) Try.underlying93 sz28 rfl rfl) (fun x77 ex77 h => ?_)
           refine L.y rfl (Y.loadZ (q := 3) (row := svRow) (vs := gq32) (j := 0) (pv := gv (gq32 gx30.toNat) 0) ag28 rfl rfl rfl (fun _ _ => rfl) (idxA_idx ex77) rfl) ?_
           refine L.y rfl (Y.func rfl) ?_
           refine L.ssOut (sds := (svSd 3 1 I)) (vs := gq32) (s := 4) (j := 0) (c := 1) rfl (fun _ _ => rfl) (idxA_idx ex77) rfl ?_
           refine L.callJ (fun v D => ∃ (gv33 : Value) (gl34 : (List Int)), v = gv33 ∧ D = Cls w [] [.obj b11 [.int .i64 x10.Tx, .int .i64 x10.Kind, .int .i64 x10.Item] 83, .obj b7 (zr svRow gq6 gl5).flatten 94, .ss (zs (svSd 3 1 I) gq6 gl5), .obj b6 (zr svRow gq32 gl31).flatten 93, .ss ((zs (svSd 3 1 I) gq32 gl31).set (gx30.toNat * 1 + 0) (Sd.nil 0 0)), .obj b3 ((l75.map I).flatten) 92, .obj b2 [.bool gb10, .bool gb11, .bool gb12] 32, .obj b1 [.bool false, .bool false, .bool false] 32, .sl gv33 3 1 (gl34.map I)] ∧ m11_run_Kinds_K10 gl31 gx30 go2 gl34 = some r) rfl en43 rfl Try.func43 rfl rfl rfl ?_ ?_
           ·
            refine W.seq (W.region (L.y rfl (Y.assign rfl) ?_))
            refine L.nil (E.thenN (W.seq (W.region (L.y rfl (Y.move rfl) ?_))))
            refine L.y rfl (Y.move rfl) ?_
            refine L.callJ (fun v D => ∃ (gx35 : Int), v = .int .i64 gx35 ∧ D = Cls w [] [.obj b11 [.int .i64 x10.Tx, .int .i64 x10.Kind, .int .i64 x10.Item] 83, .obj b7 (zr svRow gq6 gl5).flatten 94, .ss (zs (svSd 3 1 I) gq6 gl5), .obj b6 (zr svRow gq32 gl31).flatten 93, .ss ((zs (svSd 3 1 I) gq32 gl31).set (gx30.toNat * 1 + 0) (Sd.nil 0 0)), .obj b3 ((l75.map I).flatten) 92, .obj b2 [.bool gb10, .bool gb11, .bool gb12] 32, .obj b1 [.bool false, .bool false, .bool false] 32, .sl (gv (gq32 gx30.toNat) 0) 3 1 (x77.map I)] ∧ m11_run_Kinds_K11 gl31 gx30 go2 x77 x10 gx35 = some r) rfl en111 rfl Try.func111 rfl rfl rfl ?_ ?_
            ·
             refine W.seq (W.region (L.y rfl (Y.assign rfl) ?_))
             refine L.nil (E.thenN (W.seqJ (fun gs D => gs = [] ∧ D = Cls w [] [.obj b11 [.int .i64 x10.Tx, .int .i64 x10.Kind, .int .i64 x10.Item] 83, .obj b7 (zr svRow gq6 gl5).flatten 94, .ss (zs (svSd 3 1 I) gq6 gl5), .obj b6 (zr svRow gq32 gl31).flatten 93, .ss ((zs (svSd 3 1 I) gq32 gl31).set (gx30.toNat * 1 + 0) (Sd.nil 0 0)), .obj b3 ((l75.map I).flatten) 92, .obj b2 [.bool gb10, .bool gb11, .bool gb12] 32, .obj b1 [.bool false, .bool false, .bool false] 32, .sl (gv (gq32 gx30.toNat) 0) 3 1 (x77.map I)] ∧ m11_run_Kinds_K16 gl31 gx30 go2 x77 x10 = some r) ?_ ?_))
             ·
              refine W.seq (W.region (L.y rfl (Y.move rfl) ?_))
              refine L.y rfl (Y.lenM (g := I) (l := x77) Try.underlying28 rfl (fun w hw => As.at_ (hw.get (i := 0) rfl))) ?_
              refine L.y rfl (Y.move rfl) ?_
              refine L.nil (E.thenN (W.block (W.loopJ (fun m gs D => ∃ (gx41 : Int), gs = [(0, gv (gq32 gx30.toNat) 0), (1, .func (.func 45) #[] #[pt b11 0]), (7, .int .i64 (x77.length : Int)), (8, .int .i64 gx41)] ∧ D = Cls w [] [.obj b11 [.int .i64 x10.Tx, .int .i64 x10.Kind, .int .i64 x10.Item] 83, .obj b7 (zr svRow gq6 gl5).flatten 94, .ss (zs (svSd 3 1 I) gq6 gl5), .obj b6 (zr svRow gq32 gl31).flatten 93, .ss ((zs (svSd 3 1 I) gq32 gl31).set (gx30.toNat * 1 + 0) (Sd.nil 0 0)), .obj b3 ((l75.map I).flatten) 92, .obj b2 [.bool gb10, .bool gb11, .bool gb12] 32, .obj b1 [.bool false, .bool false, .bool false] 32, .sl (gv (gq32 gx30.toNat) 0) 3 1 (x77.map I)] ∧ m11_run_Kinds_L4 x77 x10 gl31 gx30 go2 m gx41 = some r) ⟨0, rfl, rfl, h⟩ ⟨rfl, rfl, rfl, rfl, trivial⟩ (fun _ hw => hw.sel [1, 2, 3, 4, 5, 6, 7, 8, 0] (by decide) rfl) ?_)))
              rintro m _ _ ⟨gx41, rfl, rfl, h⟩
              rcases m with _ | m
              · rw [m11_run_Kinds_L4] at h; cases h
              rw [m11_run_Kinds_L4] at h
              generalize hg4 : m11_run_Kinds_L4 x77 x10 gl31 gx30 go2 m = go4 at h
              rw [m11_run_Kinds_L4B] at h
              refine W.seq (W.region (L.ite h rfl (Y.lss rfl rfl) (fun c96 h => ?_) (fun c96 h => ?_)))
              ·
               refine L.nil (E.thenN (W.seq (W.condT rfl ?_)))
               refine W.skip (E.thenN (W.seq (W.block (W.seq (W.region (L.y rfl (Y.move rfl) ?_))))))
               refine L.y rfl (Y.assign rfl) ?_
               refine L.nil (E.thenN (W.seq (W.region (L.y rfl (Y.move rfl) ?_))))
               refine L.y rfl (Y.move rfl) ?_
               refine L.y rfl (Y.move rfl) ?_
               refine L.m (V := fun _ => el (gv (gq32 gx30.toNat) 0) (gx41.toNat * 1)) h rfl (Y.indexM (g := I) (l := x77) Try.underlying28 sz3 rfl rfl (fun w hw => As.at_ (hw.get (i := 8) rfl))) (fun x97 ex97 h => ?_)
               refine L.y rfl (Y.loadE1 (u := .int .i64 x97) ag3 rfl (fun w hw => As.at_ (hw.get (i := 8) rfl)) (idx_map ex97)) ?_
               refine L.callVJ (fun v D => v = .bool (decide (x97 = x10.Tx)) ∧ D = Cls w [] [.obj b11 [.int .i64 x10.Tx, .int .i64 x10.Kind, .int .i64 x10.Item] 83, .obj b7 (zr svRow gq6 gl5).flatten 94, .ss (zs (svSd 3 1 I) gq6 gl5), .obj b6 (zr svRow gq32 gl31).flatten 93, .ss ((zs (svSd 3 1 I) gq32 gl31).set (gx30.toNat * 1 + 0) (Sd.nil 0 0)), .obj b3 ((l75.map I).flatten) 92, .obj b2 [.bool gb10, .bool gb11, .bool gb12] 32, .obj b1 [.bool false, .bool false, .bool false] 32, .sl (gv (gq32 gx30.toNat) 0) 3 1 (x77.map I)] ∧ m11_run_Kinds_K17 x97 x10 gl31 gx30 go2 x77 gx41 go4 = some r) rfl en45 rfl rfl Try.func45 rfl rfl rfl ?_ ?_
               ·
                refine W.seq (W.region (L.y rfl (Y.assign rfl) ?_))
                refine L.nil (E.thenN (W.seq (W.region (L.y rfl (Y.move rfl) ?_))))
                refine L.y rfl (Y.fieldP fd83_0 rfl) ?_
                refine L.y rfl (Y.loadP (i := 0) ag3 rfl rfl rfl) ?_
                refine L.y rfl (Y.eql rfl rfl) ?_
                refine L.y rfl (Y.assign rfl) ?_
                refine L.nil (E.thenN (W.ret (E.ret1 rfl rfl (fun w1 hw => ?_))))
                exact ⟨_, _, rfl, ⟨rfl, rfl, h⟩, hw⟩
               ·
                rintro _ _ ⟨rfl, rfl, h⟩
                rw [m11_run_Kinds_K17] at h
                refine L.nil (E.thenN (W.caseB (q := 16) h rfl (fun h => ?_) (fun h => ?_)))
                ·
                 refine W.condT rfl ?_
                 refine W.seq (W.region (L.y rfl (Y.move rfl) ?_))
                 refine L.y rfl (Y.assign rfl) ?_
                 refine L.nil (E.thenN (W.ret (E.blockR (E.thenR (E.KLR (E.blockR (E.KSR (E.ret1 rfl rfl (fun w1 hw => ?_)))))))))
                 exact ⟨_, _, rfl, ⟨gx41, rfl, rfl, h⟩, hw⟩
                ·
                 refine W.condF rfl ?_
                 refine W.skip (E.blockN (E.thenN (W.region (L.m (V := fun x98 => .int .i64 x98) h rfl (Y.addM rfl rfl) (fun x98 ex98 h => ?_)))))
                 refine L.y rfl (Y.move rfl) ?_
                 exact L.nil (E.againJ ⟨x98, rfl, rfl, by rw [hg4]; exact h⟩ (Nat.lt_succ_self _) ⟨rfl, rfl, rfl, rfl, trivial⟩ (fun _ hw => hw))
              ·
               refine L.nil (E.thenN (W.seq (W.condF rfl ?_)))
               exact W.exit (E.thenX (E.KLX (E.blockX (E.joinJ ⟨rfl, rfl, h⟩ trivial (fun _ hw => hw)))))
             ·
              rintro _ _ ⟨rfl, rfl, h⟩
              rw [m11_run_Kinds_K16] at h
              refine W.seq (W.region (L.y rfl (Y.assign rfl) ?_))
              refine L.nil (E.thenN (W.ret (E.ret1 rfl rfl (fun w1 hw => ?_))))
              exact ⟨_, _, rfl, ⟨(-1), rfl, rfl, h⟩, hw⟩
            ·
             rintro _ _ ⟨gx35, rfl, rfl, h⟩
             rw [m11_run_Kinds_K11] at h
             refine L.y rfl (Y.assign rfl) ?_
             refine L.nil (E.thenN (W.seqJ (fun gs D => gs = [(0, gv (gq32 gx30.toNat) 0), (1, .func (.func 45) #[] #[pt b11 0]), (5, .int .i64 gx35)] ∧ D = Cls w [] [.obj b11 [.int .i64 x10.Tx, .int .i64 x10.Kind, .int .i64 x10.Item] 83, .obj b7 (zr svRow gq6 gl5).flatten 94, .ss (zs (svSd 3 1 I) gq6 gl5), .obj b6 (zr svRow gq32 gl31).flatten 93, .ss ((zs (svSd 3 1 I) gq32 gl31).set (gx30.toNat * 1 + 0) (Sd.nil 0 0)), .obj b3 ((l75.map I).flatten) 92, .obj b2 [.bool gb10, .bool gb11, .bool gb12] 32, .obj b1 [.bool false, .bool false, .bool false] 32, .sl (gv (gq32 gx30.toNat) 0) 3 1 (x77.map I)] ∧ m11_run_Kinds_K12 gx35 x10 gl31 gx30 go2 x77 = some r) ?_ ?_))
             ·
              refine W.seq (W.region (L.y rfl (Y.move rfl) ?_))
              refine L.ite h rfl (Y.eql rfl rfl) (fun c95 h => ?_) (fun c95 h => ?_)
              ·
               refine L.nil (E.thenN (W.condT rfl ?_))
               refine W.seq (W.region (L.y rfl (Y.move rfl) ?_))
               refine L.y rfl (Y.assign rfl) ?_
               refine L.nil (E.thenN (W.ret (E.KSR (E.ret1 rfl rfl (fun w1 hw => ?_)))))
               exact ⟨_, _, rfl, ⟨gv (gq32 gx30.toNat) 0, x77, rfl, rfl, h⟩, hw⟩
              ·
               refine L.nil (E.thenN (W.condF rfl ?_))
               exact W.skip (E.joinJ ⟨rfl, rfl, h⟩ ⟨rfl, rfl, rfl, trivial⟩ (fun _ hw => hw))
             ·
              rintro _ _ ⟨rfl, rfl, h⟩
              rw [m11_run_Kinds_K12] at h
              refine W.seqJ (fun gs D => ∃ (gl36 : (List Int)) (gx37 : Int), gs = [(0, gv (gq32 gx30.toNat) 0), (5, .int .i64 gx37)] ∧ D = Cls w [] [.obj b11 [.int .i64 x10.Tx, .int .i64 x10.Kind, .int .i64 x10.Item] 83, .obj b7 (zr svRow gq6 gl5).flatten 94, .ss (zs (svSd 3 1 I) gq6 gl5), .obj b6 (zr svRow gq32 gl31).flatten 93, .ss ((zs (svSd 3 1 I) gq32 gl31).set (gx30.toNat * 1 + 0) (Sd.nil 0 0)), .obj b3 ((l75.map I).flatten) 92, .obj b2 [.bool gb10, .bool gb11, .bool gb12] 32, .obj b1 [.bool false, .bool false, .bool false] 32, .sl (gv (gq32 gx30.toNat) 0) 3 1 (gl36.map I)] ∧ m11_run_Kinds_K13 gl31 gx30 go2 gl36 gx37 = some r) ?_ ?_
              ·
               refine W.seq (W.region (L.y rfl (Y.move rfl) ?_))
               refine L.m (V := fun x86 => .int .i64 x86) h rfl (Y.addM rfl rfl) (fun x86 ex86 h => ?_)
               refine L.y rfl (Y.assign rfl) ?_
               refine L.nil (E.thenN (W.block (W.loopJ (fun m gs D => ∃ (gl38 : (List Int)) (gx39 : Int) (gx40 : Int), gs = [(0, gv (gq32 gx30.toNat) 0), (1, .func (.func 45) #[] #[pt b11 0]), (5, .int .i64 gx39), (6, .int .i64 gx40)] ∧ D = Cls w [] [.obj b11 [.int .i64 x10.Tx, .int .i64 x10.Kind, .int .i64 x10.Item] 83, .obj b7 (zr svRow gq6 gl5).flatten 94, .ss (zs (svSd 3 1 I) gq6 gl5), .obj b6 (zr svRow gq32 gl31).flatten 93, .ss ((zs (svSd 3 1 I) gq32 gl31).set (gx30.toNat * 1 + 0) (Sd.nil 0 0)), .obj b3 ((l75.map I).flatten) 92, .obj b2 [.bool gb10, .bool gb11, .bool gb12] 32, .obj b1 [.bool false, .bool false, .bool false] 32, .sl (gv (gq32 gx30.toNat) 0) 3 1 (gl38.map I)] ∧ m11_run_Kinds_L3 x10 gl31 gx30 go2 m gl38 gx39 gx40 = some r) ⟨x77, gx35, x86, rfl, rfl, h⟩ ⟨rfl, rfl, rfl, rfl, trivial⟩ (fun _ hw => hw) ?_)))
               rintro m _ _ ⟨gl38, gx39, gx40, rfl, rfl, h⟩
               rcases m with _ | m
               · rw [m11_run_Kinds_L3] at h; cases h
               rw [m11_run_Kinds_L3] at h
               generalize hg3 : m11_run_Kinds_L3 x10 gl31 gx30 go2 m = go3 at h
               rw [m11_run_Kinds_L3B] at h
               refine W.seqJ (fun gs D => gs = [(0, gv (gq32 gx30.toNat) 0), (1, .func (.func 45) #[] #[pt b11 0]), (5, .int .i64 gx39), (6, .int .i64 gx40)] ∧ D = Cls w [] [.obj b11 [.int .i64 x10.Tx, .int .i64 x10.Kind, .int .i64 x10.Item] 83, .obj b7 (zr svRow gq6 gl5).flatten 94, .ss (zs (svSd 3 1 I) gq6 gl5), .obj b6 (zr svRow gq32 gl31).flatten 93, .ss ((zs (svSd 3 1 I) gq32 gl31).set (gx30.toNat * 1 + 0) (Sd.nil 0 0)), .obj b3 ((l75.map I).flatten) 92, .obj b2 [.bool gb10, .bool gb11, .bool gb12] 32, .obj b1 [.bool false, .bool false, .bool false] 32, .sl (gv (gq32 gx30.toNat) 0) 3 1 (gl38.map I)] ∧ m11_run_Kinds_K14 gl38 gx40 x10 gx39 go3 = some r) ?_ ?_
               ·
                refine W.seq (W.region (L.y rfl (Y.move rfl) ?_))
                refine L.y rfl (Y.move rfl) ?_
                refine L.y rfl (Y.lenM (g := I) (l := gl38) Try.underlying28 rfl (fun w hw => As.at_ (hw.get (i := 8) rfl))) ?_
                refine L.ite h rfl (Y.lss rfl rfl) (fun c94 h => ?_) (fun c94 h => ?_)
                ·
                 refine L.nil (E.thenN (W.condT rfl ?_))
                 exact W.skip (E.joinJ ⟨rfl, rfl, h⟩ ⟨rfl, rfl, rfl, rfl, trivial⟩ (fun _ hw => hw))
                ·
                 refine L.nil (E.thenN (W.condF rfl ?_))
                 exact W.exit (E.KSX (E.KLX (E.blockX (E.joinJ ⟨gl38, gx39, rfl, rfl, h⟩ ⟨rfl, rfl, trivial⟩ (fun _ hw => hw)))))
               ·
                rintro _ _ ⟨rfl, rfl, h⟩
                rw [m11_run_Kinds_K14] at h
                refine W.seq (W.block (W.seq (W.region (L.y rfl (Y.move rfl) ?_))))
                refine L.y rfl (Y.move rfl) ?_
                refine L.m (V := fun _ => el (gv (gq32 gx30.toNat) 0) (gx40.toNat * 1)) h rfl (Y.indexM (g := I) (l := gl38) Try.underlying28 sz3 rfl rfl (fun w hw => As.at_ (hw.get (i := 8) rfl))) (fun x87 ex87 h => ?_)
                refine L.y rfl (Y.loadE1 (u := .int .i64 x87) ag3 rfl (fun w hw => As.at_ (hw.get (i := 8) rfl)) (idx_map ex87)) ?_
                refine L.y rfl (Y.assign rfl) ?_
                refine L.nil (E.thenN (W.seq (W.region (L.y rfl (Y.move rfl) ?_))))
                refine L.y rfl (Y.move rfl) ?_
                refine L.callVJ (fun v D => v = .bool (decide (x87 = x10.Tx)) ∧ D = Cls w [] [.obj b11 [.int .i64 x10.Tx, .int .i64 x10.Kind, .int .i64 x10.Item] 83, .obj b7 (zr svRow gq6 gl5).flatten 94, .ss (zs (svSd 3 1 I) gq6 gl5), .obj b6 (zr svRow gq32 gl31).flatten 93, .ss ((zs (svSd 3 1 I) gq32 gl31).set (gx30.toNat * 1 + 0) (Sd.nil 0 0)), .obj b3 ((l75.map I).flatten) 92, .obj b2 [.bool gb10, .bool gb11, .bool gb12] 32, .obj b1 [.bool false, .bool false, .bool false] 32, .sl (gv (gq32 gx30.toNat) 0) 3 1 (gl38.map I)] ∧ m11_run_Kinds_K15 x87 x10 gl38 gx39 gx40 go3 = some r) rfl en45 rfl rfl Try.func45 rfl rfl rfl ?_ ?_
                ·
                 refine W.seq (W.region (L.y rfl (Y.assign rfl) ?_))
                 refine L.nil (E.thenN (W.seq (W.region (L.y rfl (Y.move rfl) ?_))))
                 refine L.y rfl (Y.fieldP fd83_0 rfl) ?_
                 refine L.y rfl (Y.loadP (i := 0) ag3 rfl rfl rfl) ?_
                 refine L.y rfl (Y.eql rfl rfl) ?_
                 refine L.y rfl (Y.assign rfl) ?_
                 refine L.nil (E.thenN (W.ret (E.ret1 rfl rfl (fun w1 hw => ?_))))
                 exact ⟨_, _, rfl, ⟨rfl, rfl, h⟩, hw⟩
                ·
                 rintro _ _ ⟨rfl, rfl, h⟩
                 rw [m11_run_Kinds_K15] at h
                 refine L.iteB h rfl (Y.not rfl) (fun c88 h => ?_) (fun c88 h => ?_)
                 ·
                  refine L.nil (E.thenN (W.condT rfl ?_))
                  refine W.seq (W.region (L.y rfl (Y.move rfl) ?_))
                  refine L.y rfl (Y.move rfl) ?_
                  refine L.y rfl (Y.move rfl) ?_
                  refine L.m (V := fun _ => el (gv (gq32 gx30.toNat) 0) (gx39.toNat * 1)) h rfl (Y.indexM (g := I) (l := gl38) Try.underlying28 sz3 rfl rfl (fun w hw => As.at_ (hw.get (i := 8) rfl))) (fun x89 ex89 h => ?_)
                  refine L.storeSlM (q := 8) (row := I) (vs := [.int .i64 x87]) (j := 0) (u1 := x87) h sz3 rfl rfl rfl rfl rfl (all1 rfl all0) rfl ex89 rfl rfl ?_
                  intro l90 el90 h
                  refine L.nil (E.thenN (W.region (L.y rfl (Y.move rfl) ?_)))
                  refine L.m (V := fun x91 => .int .i64 x91) h rfl (Y.addM rfl rfl) (fun x91 ex91 h => ?_)
                  refine L.y rfl (Y.assign rfl) ?_
                  refine L.nil (E.blockN (E.thenN (W.region (L.y rfl (Y.move rfl) ?_))))
                  refine L.m (V := fun x92 => .int .i64 x92) h rfl (Y.addM rfl rfl) (fun x92 ex92 h => ?_)
                  refine L.y rfl (Y.assign rfl) ?_
                  exact L.nil (E.againJ ⟨l90, x91, x92, rfl, rfl, by rw [hg3]; exact h⟩ (Nat.lt_succ_self _) ⟨rfl, rfl, rfl, rfl, trivial⟩ (fun _ hw => hw))
                 ·
                  refine L.nil (E.thenN (W.condF rfl ?_))
                  refine W.skip (E.blockN (E.thenN (W.region (L.y rfl (Y.move rfl) ?_))))
                  refine L.m (V := fun x93 => .int .i64 x93) h rfl (Y.addM rfl rfl) (fun x93 ex93 h => ?_)
                  refine L.y rfl (Y.assign rfl) ?_
                  exact L.nil (E.againJ ⟨gl38, gx39, x93, rfl, rfl, by rw [hg3]; exact h⟩ (Nat.lt_succ_self _) ⟨rfl, rfl, rfl, rfl, trivial⟩ (fun _ hw => hw))
              ·
               rintro _ _ ⟨gl36, gx37, rfl, rfl, h⟩
               rw [m11_run_Kinds_K13] at h
               refine W.seq (W.region (L.y rfl (Y.move rfl) ?_))
               refine L.y rfl (Y.move rfl) ?_
               refine L.m (V := fun _ => dropv (gv (gq32 gx30.toNat) 0) gx37.toNat 1) h rfl (Y.dropM (g := I) Try.underlying28 sz3 rfl rfl (fun w hw => As.at_ (hw.get (i := 8) rfl))) (fun l82 el82 h => ?_)
               refine L.clearM (i := 8) (g := I) (z0 := 0) (a := gx37) h Try.underlying28 el3 ze3 (fun u hu => ((plain_ints _) : Plain ([0].map I)) _ (List.mem_cons_self ..) u hu) rfl rfl ?_
               intro l83 el83 h
               refine L.nil (E.thenN (W.seq (W.region (L.y rfl (Y.move rfl) ?_))))
               refine L.y rfl (Y.move rfl) ?_
               obtain ⟨l84, el84, h⟩ := bind1S h
               refine L.cutM (i := 8) (g := I) el84 rfl Try.underlying28 sz3 rfl rfl rfl (fun v85 => ?_)
               refine L.y rfl (Y.assign rfl) ?_
               refine L.nil (E.thenN (W.ret (E.ret1 rfl rfl (fun w1 hw => ?_))))
               exact ⟨_, _, rfl, ⟨v85, l84, rfl, rfl, h⟩, hw⟩
           ·
            rintro gv33 _ ⟨_, gl34, rfl, rfl, h⟩
            rw [m11_run_Kinds_K10] at h
            refine L.m (V := fun _ => pt b6 (0 + gx30.toNat * 1)) h rfl (Y.indexAM (l := gl31) Try.underlying93 sz28 rfl rfl) (fun x78 ex78 h => ?_)
            refine L.storeZS (row := svRow) (sds := (svSd 3 1 I)) (vs := gq32) (q := 3) (p := 8) (s := 4) (c := 1) (jj := 0) (u1 := gl34) (v1 := [gv33]) (j := 0) h sz28 rfl rfl rfl rfl rfl rfl (.inr rfl) (fun _ _ => rfl) (fun _ _ => rfl) (idxA_idx ex78) rfl rfl rfl rfl ?_
            intro l79 q80 el79 h
            refine L.nil (E.blockN (E.thenN (W.region (L.m (V := fun x81 => .int .i64 x81) h rfl (Y.addM rfl rfl) (fun x81 ex81 h => ?_)))))
            refine L.y rfl (Y.move rfl) ?_
            exact L.nil (E.againJ ⟨x81, l79, q80, rfl, rfl, by rw [hg2]; exact h⟩ (Nat.lt_succ_self _) ⟨rfl, rfl, rfl, rfl, rfl, rfl, rfl, rfl, rfl, rfl, trivial⟩ (fun _ hw => hw))
          ·
           refine L.nil (E.thenN (W.seq (W.condF rfl ?_)))
           exact W.exit (E.thenX (E.KLX (E.blockX (E.blockN (E.blockN (E.joinJ ⟨gl5, gq6, gl31, gq32, l75, gb10, gb11, gb12, rfl, rfl, h⟩ ⟨rfl, rfl, rfl, rfl, rfl, rfl, rfl, rfl, trivial⟩ (fun _ hw => hw.sel [1, 2, 3, 4, 5, 6, 7] (by decide) rfl)))))))
       ·
        replace h := iteT h
        refine W.condT rfl ?_
        refine W.seqJ (fun gs D => ∃ (gb42 : Bool), gs = [(2, pt b1 0), (5, pt b2 0), (6, pt b3 0), (7, pt b6 0), (8, pt b7 0), (10, pt b11 0), (25, u0), (26, .int .i64 (a0.length : Int)), (27, .int .i64 gx4)] ∧ D = Cls w [] [.obj b11 [.int .i64 x10.Tx, .int .i64 x10.Kind, .int .i64 x10.Item] 83, .obj b7 (zr svRow gq6 gl5).flatten 94, .ss (zs (svSd 3 1 I) gq6 gl5), .obj b6 (zr svRow gq8 gl7).flatten 93, .ss (zs (svSd 3 1 I) gq8 gl7), .obj b3 ((gl9.map I).flatten) 92, .obj b2 [.bool gb42, .bool gb11, .bool gb12] 32, .obj b1 [.bool false, .bool false, .bool false] 32] ∧ m11_run_Kinds_K18 gl9 x10 gx4 go1 gl5 gl7 gb11 gb12 gb42 = some r) ?_ ?_
        ·
         refine W.seq (W.region (L.y rfl (Y.fieldP fd83_0 rfl) ?_))
         refine L.y rfl (Y.loadP (i := 0) ag3 rfl rfl rfl) ?_
         refine L.m (V := fun _ => pt b7 (0 + x10.Tx.toNat * 1)) h rfl (Y.indexAM (l := gl5) Try.underlying94 sz28 rfl rfl) (fun x102 ex102 h => ?_)
         refine L.y rfl (Y.loadZ (q := 1) (row := svRow) (vs := gq6) (j := 0) (pv := gv (gq6 x10.Tx.toNat) 0) ag28 rfl rfl rfl (fun _ _ => rfl) (idxA_idx ex102) rfl) ?_
         refine L.y rfl (Y.lenM (g := I) (l := x102) Try.underlying28 rfl (fun w hw => As.atZ (sds := (svSd 3 1 I)) (vs := gq6) (j := 0) (hw.get (i := 2) rfl) (fun _ _ => rfl) (idxA_idx ex102) rfl)) ?_
         refine L.y rfl (Y.move rfl) ?_
         refine L.nil (E.thenN (W.block (W.loopJ (fun m gs D => ∃ (gx43 : Int) (gb44 : Bool), gs = [(2, pt b1 0), (5, pt b2 0), (6, pt b3 0), (7, pt b6 0), (8, pt b7 0), (10, pt b11 0), (25, u0), (26, .int .i64 (a0.length : Int)), (27, .int .i64 gx4), (110, gv (gq6 x10.Tx.toNat) 0), (111, .int .i64 (x102.length : Int)), (112, .int .i64 gx43)] ∧ D = Cls w [] [.obj b11 [.int .i64 x10.Tx, .int .i64 x10.Kind, .int .i64 x10.Item] 83, .obj b7 (zr svRow gq6 gl5).flatten 94, .ss (zs (svSd 3 1 I) gq6 gl5), .obj b6 (zr svRow gq8 gl7).flatten 93, .ss (zs (svSd 3 1 I) gq8 gl7), .obj b3 ((gl9.map I).flatten) 92, .obj b2 [.bool gb44, .bool gb11, .bool gb12] 32, .obj b1 [.bool false, .bool false, .bool false] 32] ∧ m11_run_Kinds_L5 x102 gl9 x10 gx4 go1 gl5 gl7 gb11 gb12 m gx43 gb44 = some r) ⟨0, gb10, rfl, rfl, h⟩ ⟨rfl, rfl, rfl, rfl, rfl, rfl, rfl, rfl, rfl, rfl, rfl, rfl, trivial⟩ (fun _ hw => hw) ?_)))
         rintro m _ _ ⟨gx43, gb44, rfl, rfl, h⟩
         rcases m with _ | m
         · rw [m11_run_Kinds_L5] at h; cases h
         rw [m11_run_Kinds_L5] at h
         generalize hg5 : m11_run_Kinds_L5 x102 gl9 x10 gx4 go1 gl5 gl7 gb11 gb12 m = go5 at h
         rw [m11_run_Kinds_L5B] at h
         refine W.seq (W.region (L.ite h rfl (Y.lss rfl rfl) (fun c103 h => ?_) (fun c103 h => ?_)))
         ·
          refine L.nil (E.thenN (W.seq (W.condT rfl ?_)))
          refine W.skip (E.thenN (W.seq (W.block (W.seq (W.region (L.m (V := fun _ => el (gv (gq6 x10.Tx.toNat) 0) (gx43.toNat * 1)) h rfl (Y.indexM (g := I) (l := x102) Try.underlying28 sz3 rfl rfl (fun w hw => As.atZ (sds := (svSd 3 1 I)) (vs := gq6) (j := 0) (hw.get (i := 2) rfl) (fun _ _ => rfl) (idxA_idx ex102) rfl)) (fun x104 ex104 h => ?_)))))))
          refine L.y rfl (Y.loadE1 (u := .int .i64 x104) ag3 rfl (fun w hw => As.atZ (sds := (svSd 3 1 I)) (vs := gq6) (j := 0) (hw.get (i := 2) rfl) (fun _ _ => rfl) (idxA_idx ex102) rfl) (idx_map ex104)) ?_
          refine L.y rfl (Y.assign rfl) ?_
          refine L.nil (E.thenN (W.region (L.y rfl (Y.fieldP fd32_0 rfl) ?_)))
          refine L.iteB h rfl (Y.loadP (i := 6) ag4 rfl rfl rfl) (fun c105 h => ?_) (fun c105 h => ?_)
          ·
           refine L.y rfl (Y.move rfl) ?_
           refine L.take rfl (L.y rfl (Y.move rfl) ?_)
           refine L.take rfl (L.m (V := fun _ => pt b3 (0 + x104.toNat * 1)) h rfl (Y.indexAM (l := gl9) Try.underlying92 sz3 rfl rfl) (fun x106 ex106 h => ?_))
           refine L.take rfl (L.y rfl (Y.loadAr (q := 5) (row := I) (j := 0) (p := .int .i64 x106) ag3 rfl rfl rfl (fun _ => rfl) (idxA_idx ex106) rfl) ?_)
           refine L.take rfl (L.y rfl (Y.eql rfl rfl) ?_)
           refine L.y rfl (Y.pickT rfl rfl) ?_
           refine L.y rfl (Y.fieldP fd32_0 rfl) ?_
           refine L.store (i := 6) sz4 rfl rfl rfl rfl (by simp [Value.oneCell', Value.cells, st]) rfl (Nat.le_of_ble_eq_true rfl) ?_
           refine L.nil (E.blockN (E.thenN (W.region (L.m (V := fun x107 => .int .i64 x107) h rfl (Y.addM rfl rfl) (fun x107 ex107 h => ?_)))))
           refine L.y rfl (Y.move rfl) ?_
           exact L.nil (E.againJ ⟨x107, decide (x106 = 3), rfl, rfl, by rw [hg5]; exact h⟩ (Nat.lt_succ_self _) ⟨rfl, rfl, rfl, rfl, rfl, rfl, rfl, rfl, rfl, rfl, rfl, rfl, trivial⟩ (fun _ hw => hw))
          ·
           refine L.y rfl (Y.move rfl) ?_
           refine L.pass rfl rfl (by nofun) ?_
           refine L.pass rfl rfl (by nofun) ?_
           refine L.pass rfl rfl (by nofun) ?_
           refine L.pass rfl rfl (by nofun) ?_
           refine L.y rfl (Y.pickF rfl rfl) ?_
           refine L.y rfl (Y.fieldP fd32_0 rfl) ?_
           refine L.store (i := 6) sz4 rfl rfl rfl rfl (by simp [Value.oneCell', Value.cells, st]) rfl (Nat.le_of_ble_eq_true rfl) ?_
           refine L.nil (E.blockN (E.thenN (W.region (L.m (V := fun x108 => .int .i64 x108) h rfl (Y.addM rfl rfl) (fun x108 ex108 h => ?_)))))
           refine L.y rfl (Y.move rfl) ?_
           exact L.nil (E.againJ ⟨x108, false, rfl, rfl, by rw [hg5]; exact h⟩ (Nat.lt_succ_self _) ⟨rfl, rfl, rfl, rfl, rfl, rfl, rfl, rfl, rfl, rfl, rfl, rfl, trivial⟩ (fun _ hw => hw))
         ·
          refine L.nil (E.thenN (W.seq (W.condF rfl ?_)))
          exact W.exit (E.thenX (E.KLX (E.blockX (E.joinJ ⟨gb44, rfl, rfl, h⟩ ⟨rfl, rfl, rfl, rfl, rfl, rfl, rfl, rfl, rfl, trivial⟩ (fun _ hw => hw)))))
        ·
         rintro _ _ ⟨gb42, rfl, rfl, h⟩
         rw [m11_run_Kinds_K18] at h
         refine W.region (L.y rfl (Y.fieldP fd83_0 rfl) ?_)
         refine L.y rfl (Y.loadP (i := 0) ag3 rfl rfl rfl) ?_
         refine L.m (V := fun _ => pt b3 (0 + x10.Tx.toNat * 1)) h rfl (Y.indexAM (l := gl9) Try.underlying92 sz3 rfl rfl) (fun x100 ex100 h => ?_)
         refine L.storeArM (q := 5) (row := I) (vs := [.int .i64 3]) (j := 0) (u1 := 3) h sz3 rfl rfl rfl rfl rfl (all1 rfl all0) rfl (fun _ => rfl) (idxA_idx ex100) rfl rfl ?_
         intro l101 el101 h
         exact L.nil (E.blockN (E.blockN (E.joinJ ⟨gl5, gq6, gl7, gq8, l101, gb42, gb11, gb12, rfl, rfl, h⟩ ⟨rfl, rfl, rfl, rfl, rfl, rfl, rfl, rfl, trivial⟩ (fun _ hw => hw.sel [1, 2, 3, 4, 5, 6, 7] (by decide) rfl))))
     ·
      rintro _ _ ⟨gl13, gq14, gl15, gq16, gl17, gb18, gb19, gb20, rfl, rfl, h⟩
      rw [m11_run_Kinds_K3] at h
      refine W.region (L.m (V := fun x9 => .int .i64 x9) h rfl (Y.addM rfl rfl) (fun x9 ex9 h => ?_))
      refine L.y rfl (Y.move rfl) ?_
      exact L.nil (E.againJ ⟨x9, gl13, gq14, gl15, gq16, gl17, gb18, gb19, gb20, rfl, rfl, by rw [hg1]; exact h⟩ (Nat.lt_succ_self _) ⟨rfl, rfl, rfl, rfl, rfl, rfl, rfl, rfl, trivial⟩ (fun _ hw => hw))
    ·
     refine L.nil (E.thenN (W.seq (W.condF rfl ?_)))
     exact W.exit (E.thenX (E.KLX (E.blockX (E.joinJ ⟨gb10, gb11, gb12, rfl, rfl, h⟩ ⟨rfl, rfl, trivial⟩ (fun _ hw => hw.sel [5, 6] (by decide) rfl)))))
   ·
    rintro _ _ ⟨gb1, gb2, gb3, rfl, rfl, h⟩
    rw [m11_run_Kinds_K2] at h
    refine W.seq (W.region (L.y rfl (Y.loadPW (i := 0) ag32 sz32 rfl rfl rfl) ?_))
    refine L.store (i := 1) sz32 rfl rfl rfl rfl (by simp [Value.oneCell', Value.cells, st]) rfl (Nat.le_of_ble_eq_true rfl) ?_
    refine L.y rfl (Y.assign rfl) ?_
    refine L.nil (E.thenN (W.ret (E.retR2 rfl (Rv.cellW (i := 1) ag32 sz32 rfl rfl rfl) (Rv.tmp rfl) (fun w1 hw => ?_))))
    obtain rfl := Option.some.inj h
    exact ⟨_, _, rfl, ⟨rfl, rfl⟩, hw.sel [] (by decide) rfl⟩
set_option maxRecDepth 100000 in
set_option maxHeartbeats 8000000 in
theorem w132_api_Op (a0 : (List TOp)) (a1 : TOp) (u0 : Value) (w : World) (r : Int) (h : m132_api_Op a0 a1 = some r) (hA0 : At w u0 3 (a0.map TOp.row)) : Does Try.prog 132 [u0, .agg #[.int .i64 a1.Tx, .int .i64 a1.Kind, .int .i64 a1.Item]] w fun u m => u = .int .i64 r ∧ m = [] := by
  rw [m132_api_Op] at h
  refine body (n := 19) Try.func132 rfl rfl rfl (Cls.refl w) ?_
  refine W.seq (W.region (L.box rfl rfl ?_))
  intro b1
  refine L.y rfl (Y.assign rfl) ?_
  refine L.nil (E.thenN (W.seqJ (fun gs D => gs = [] ∧ D = Cls w [] [] ∧ m132_api_Op_K1 = some r) ?_ ?_))
  ·
   refine W.seq (W.region (L.y rfl (Y.move rfl) ?_))
   refine L.y rfl (Y.lenM (g := TOp.row) (l := a0) Try.underlying22 rfl (fun w' hw => hA0.cls0 hw)) ?_
   refine L.y rfl (Y.move rfl) ?_
   refine L.nil (E.thenN (W.block (W.loopJ (fun m gs D => ∃ (gx1 : Int), gs = [(0, u0), (3, pt b1 0), (7, .int .i64 (a0.length : Int)), (8, .int .i64 gx1)] ∧ D = Cls w [] [.obj b1 [.int .i64 a1.Tx, .int .i64 a1.Kind, .int .i64 a1.Item] 83] ∧ m132_api_Op_L1 a0 a1 m gx1 = some r) ⟨0, rfl, rfl, h⟩ ⟨rfl, rfl, rfl, rfl, trivial⟩ (fun _ hw => hw) ?_)))
   rintro m _ _ ⟨gx1, rfl, rfl, h⟩
   rcases m with _ | m
   · rw [m132_api_Op_L1] at h; cases h
   rw [m132_api_Op_L1] at h
   generalize hg1 : m132_api_Op_L1 a0 a1 m = go1 at h
   rw [m132_api_Op_L1B] at h
   refine W.seq (W.region (L.ite h rfl (Y.lss rfl rfl) (fun c2 h => ?_) (fun c2 h => ?_)))
   ·
    refine L.nil (E.thenN (W.seq (W.condT rfl ?_)))
    refine W.skip (E.thenN (W.seq (W.block (W.seq (W.region (L.y rfl (Y.move rfl) ?_))))))
    refine L.y rfl (Y.assign rfl) ?_
    refine L.nil (E.thenN (W.seq (W.quietC mixed (by kernel_rfl) (fun _ hw => hw.drew) (fun hC => ?_))))
    refine U.y rfl (Y.loadPW (i := 0) ag83 sz83 rfl rfl rfl) ?_
    refine U.y rfl (Y.move rfl) ?_
    refine U.y rfl (Y.move rfl) ?_
    refine U.m (V := fun _ => el u0 (gx1.toNat * 3)) h rfl (Y.indexM (g := TOp.row) (l := a0) Try.underlying22 sz83 rfl rfl (fun w' hw => hA0.cls0 hw)) (fun x3 ex3 h => ?_)
    refine U.y rfl (Y.loadEN (r := [.int .i64 x3.Tx, .int .i64 x3.Kind, .int .i64 x3.Item]) ag83 sz83 rfl (fun w' hw => hA0.cls0 hw) (idx_map ex3) rfl) ?_
    refine U.ite h rfl (Y.eqlA (row := TOp.row) (a := a1) (b := x3) eg83 ag83 (sh83 _) (sh83 _) (inj83 _ _) rfl rfl) (fun c4 h => ?_) (fun c4 h => ?_)
    ·
     refine U.nil (E.thenN (W.condT rfl ?_))
     refine W.seq (W.region (L.y rfl (Y.move rfl) ?_))
     refine L.y rfl (Y.assign rfl) ?_
     refine L.nil (E.thenN (W.ret (E.blockR (E.thenR (E.KLR (E.blockR (E.KSR (E.ret1 rfl rfl (fun w1 hw => ?_)))))))))
     obtain rfl := Option.some.inj h
     exact ⟨_, _, rfl, ⟨rfl, rfl⟩, hw.sel [] (by decide) rfl⟩
    ·
     refine U.nil (E.thenN (W.condF rfl ?_))
     refine W.skip (E.blockN (E.thenN (W.region (L.m (V := fun x5 => .int .i64 x5) h rfl (Y.addM rfl rfl) (fun x5 ex5 h => ?_)))))
     refine L.y rfl (Y.move rfl) ?_
     exact L.nil (E.againJ ⟨x5, rfl, rfl, by rw [hg1]; exact h⟩ (Nat.lt_succ_self _) ⟨rfl, rfl, rfl, rfl, trivial⟩ (fun _ hw => hw))
   ·
    refine L.nil (E.thenN (W.seq (W.condF rfl ?_)))
    exact W.exit (E.thenX (E.KLX (E.blockX (E.joinJ ⟨rfl, rfl, h⟩ trivial (fun _ hw => hw.sel [] (by decide) rfl)))))
  ·
   rintro _ _ ⟨rfl, rfl, h⟩
   rw [m132_api_Op_K1] at h
   refine W.seq (W.region (L.y rfl (Y.assign rfl) ?_))
   refine L.nil (E.thenN (W.ret (E.ret1 rfl rfl (fun w1 hw => ?_))))
   obtain rfl := Option.some.inj h
   exact ⟨_, _, rfl, ⟨rfl, rfl⟩, hw⟩
set_option maxRecDepth 100000 in
set_option maxHeartbeats 8000000 in
theorem w113_api_Op (a0 : (List TOp)) (a1 : TOp) (u0 : Value) (w : World) (r : Bool) (h : m113_api_Op a0 a1 = some r) (hA0 : At w u0 3 (a0.map TOp.row)) : Does Try.prog 113 [u0, .agg #[.int .i64 a1.Tx, .int .i64 a1.Kind, .int .i64 a1.Item]] w fun u m => u = .bool r ∧ m = [] := by
  rw [m113_api_Op] at h
  refine body (n := 9) Try.func113 rfl rfl rfl (Cls.refl w) ?_
  refine W.seq (W.region (L.box rfl rfl ?_))
  intro b1
  refine L.y rfl (Y.assign rfl) ?_
  refine L.nil (E.thenN (W.seq (W.region (L.y rfl (Y.move rfl) ?_))))
  refine L.y rfl (Y.loadPW (i := 0) ag83 sz83 rfl rfl rfl) ?_
  obtain ⟨x2, e3, h⟩ := bind1S h
  refine L.y rfl (Y.does en132 rfl (fun w' hw => (w132_api_Op a0 a1 u0 w' _ e3 (hA0.cls0 hw)).mono (fun _ _ h => h.1))) ?_
  refine L.y rfl (Y.geq rfl rfl) ?_
  refine L.y rfl (Y.assign rfl) ?_
  refine L.nil (E.thenN (W.ret (E.ret1 rfl rfl (fun w1 hw => ?_))))
  obtain rfl := Option.some.inj h
  exact ⟨_, _, rfl, ⟨rfl, rfl⟩, hw.sel [] (by decide) rfl⟩
set_option maxRecDepth 100000 in
set_option maxHeartbeats 8000000 in
theorem w49_quirref_has (a0 : (List TOp)) (a1 : Int) (a2 : Int) (u0 : Value) (w : World) (r : Bool) (h : m49_quirref_has a0 a1 a2 = some r) (hA0 : At w u0 3 (a0.map TOp.row)) : Does Try.prog 49 [u0, .int .i64 a1, .int .i64 a2] w fun u m => u = .bool r ∧ m = [] := by
  rw [m49_quirref_has] at h
  refine body (n := 12) Try.func49 rfl rfl rfl (Cls.refl w) ?_
  refine W.seq (W.region (L.y rfl (Y.assign rfl) ?_))
  refine L.nil (E.thenN (W.seq (W.region (L.y rfl (Y.move rfl) ?_))))
  refine L.y rfl (Y.move rfl) ?_
  refine L.y rfl (Y.move rfl) ?_
  refine L.y rfl (Y.build (cells := #[.int .i64 a1, .int .i64 a2, .int .i64 0]) rfl (by kernel_rfl)) ?_
  obtain ⟨b1, e2, h⟩ := bind1S h
  refine L.y rfl (Y.does en113 rfl (fun w' hw => (w113_api_Op a0 (⟨a1, a2, 0⟩ : TOp) u0 w' _ e2 (hA0.cls0 hw)).mono (fun _ _ h => h.1))) ?_
  refine L.y rfl (Y.assign rfl) ?_
  refine L.nil (E.thenN (W.ret (E.ret1 rfl rfl (fun w1 hw => ?_))))
  obtain rfl := Option.some.inj h
  exact ⟨_, _, rfl, ⟨rfl, rfl⟩, hw⟩
set_option maxRecDepth 100000 in
set_option maxHeartbeats 8000000 in
theorem w50_quirref_clash (a0 : TOp) (a1 : TOp) (w : World) (r : Bool) (h : m50_quirref_clash a0 a1 = some r) : Does Try.prog 50 [.agg #[.int .i64 a0.Tx, .int .i64 a0.Kind, .int .i64 a0.Item], .agg #[.int .i64 a1.Tx, .int .i64 a1.Kind, .int .i64 a1.Item]] w fun u m => u = .bool r ∧ m = [] := by
  rw [m50_quirref_clash] at h
  refine body (n := 35) Try.func50 rfl rfl rfl (Cls.refl w) ?_
  refine W.seq (W.region (L.box rfl rfl ?_))
  intro b1
  refine L.box rfl rfl ?_
  intro b2
  refine L.y rfl (Y.assign rfl) ?_
  refine L.nil (E.thenN (W.seq (W.region (L.cutJ 12 (fun gs D => ∃ (gb1 : Bool), gs = [(2, pt b1 0), (3, pt b2 0), (16, .bool gb1)] ∧ D = Cls w [] [.obj b2 [.int .i64 a1.Tx, .int .i64 a1.Kind, .int .i64 a1.Item] 83, .obj b1 [.int .i64 a0.Tx, .int .i64 a0.Kind, .int .i64 a0.Item] 83] ∧ m50_quirref_clash_K1 a0 a1 gb1 = some r) ?_ ?_))))
  ·
   refine L.y rfl (Y.fieldP fd83_0 rfl) ?_
   refine L.y rfl (Y.loadP (i := 1) ag3 rfl rfl rfl) ?_
   refine L.y rfl (Y.fieldP fd83_0 rfl) ?_
   refine L.y rfl (Y.loadP (i := 0) ag3 rfl rfl rfl) ?_
   refine L.ite h rfl (Y.neq rfl rfl) (fun c6 h => ?_) (fun c6 h => ?_)
   ·
    refine L.y rfl (Y.move rfl) ?_
    refine L.take rfl (L.y rfl (Y.fieldP fd83_2 rfl) ?_)
    refine L.take rfl (L.y rfl (Y.loadP (i := 1) ag3 rfl rfl rfl) ?_)
    refine L.take rfl (L.y rfl (Y.fieldP fd83_2 rfl) ?_)
    refine L.take rfl (L.y rfl (Y.loadP (i := 0) ag3 rfl rfl rfl) ?_)
    refine L.take rfl (L.ite h rfl (Y.eql rfl rfl) (fun c7 h => ?_) (fun c7 h => ?_))
    ·
     refine L.y rfl (Y.pickT rfl rfl) ?_
     exact L.nil (E.joinJ ⟨true, rfl, rfl, h⟩ ⟨rfl, rfl, rfl, trivial⟩ (fun _ hw => hw))
    ·
     refine L.y rfl (Y.pickT rfl rfl) ?_
     exact L.nil (E.joinJ ⟨false, rfl, rfl, h⟩ ⟨rfl, rfl, rfl, trivial⟩ (fun _ hw => hw))
   ·
    refine L.y rfl (Y.move rfl) ?_
    refine L.pass rfl rfl (by nofun) ?_
    refine L.pass rfl rfl (by nofun) ?_
    refine L.pass rfl rfl (by nofun) ?_
    refine L.pass rfl rfl (by nofun) ?_
    refine L.pass rfl rfl (by nofun) ?_
    refine L.y rfl (Y.pickF rfl rfl) ?_
    exact L.nil (E.joinJ ⟨false, rfl, rfl, h⟩ ⟨rfl, rfl, rfl, trivial⟩ (fun _ hw => hw))
  ·
   rintro _ _ ⟨gb1, rfl, rfl, h⟩
   rw [m50_quirref_clash_K1] at h
   rcases gb1 with _ | _
   ·
    replace h := iteF h
    refine L.y rfl (Y.move rfl) ?_
    refine L.pass rfl rfl (by nofun) ?_
    refine L.pass rfl rfl (by nofun) ?_
    refine L.pass rfl rfl (by nofun) ?_
    refine L.y rfl (Y.pickF rfl rfl) ?_
    refine L.y rfl (Y.move rfl) ?_
    refine L.pass rfl rfl (by nofun) ?_
    refine L.pass rfl rfl (by nofun) ?_
    refine L.pass rfl rfl (by nofun) ?_
    refine L.y rfl (Y.pickF rfl rfl) ?_
    refine L.y rfl (Y.move rfl) ?_
    refine L.pass rfl rfl (by nofun) ?_
    refine L.pass rfl rfl (by nofun) ?_
    refine L.pass rfl rfl (by nofun) ?_
    refine L.pass rfl rfl (by nofun) ?_
    refine L.pass rfl rfl (by nofun) ?_
    refine L.pass rfl rfl (by nofun) ?_
    refine L.y rfl (Y.pickF rfl rfl) ?_
    refine L.y rfl (Y.assign rfl) ?_
    refine L.nil (E.thenN (W.ret (E.ret1 rfl rfl (fun w1 hw => ?_))))
    obtain rfl := Option.some.inj h
    exact ⟨_, _, rfl, ⟨rfl, rfl⟩, hw.sel [] (by decide) rfl⟩
   ·
    replace h := iteT h
    refine L.cutJ 10 (fun gs D => ∃ (gb2 : Bool), gs = [(2, pt b1 0), (3, pt b2 0), (26, .bool gb2)] ∧ D = Cls w [] [.obj b2 [.int .i64 a1.Tx, .int .i64 a1.Kind, .int .i64 a1.Item] 83, .obj b1 [.int .i64 a0.Tx, .int .i64 a0.Kind, .int .i64 a0.Item] 83] ∧ m50_quirref_clash_K2 a0 a1 gb2 = some r) ?_ ?_
    ·
     refine L.y rfl (Y.move rfl) ?_
     refine L.take rfl (L.y rfl (Y.fieldP fd83_1 rfl) ?_)
     refine L.take rfl (L.y rfl (Y.loadP (i := 1) ag3 rfl rfl rfl) ?_)
     refine L.take rfl (L.ite h rfl (Y.leq rfl rfl) (fun c4 h => ?_) (fun c4 h => ?_))
     ·
      refine L.y rfl (Y.pickT rfl rfl) ?_
      refine L.y rfl (Y.move rfl) ?_
      refine L.take rfl (L.y rfl (Y.fieldP fd83_1 rfl) ?_)
      refine L.take rfl (L.y rfl (Y.loadP (i := 0) ag3 rfl rfl rfl) ?_)
      refine L.take rfl (L.ite h rfl (Y.leq rfl rfl) (fun c5 h => ?_) (fun c5 h => ?_))
      ·
       refine L.y rfl (Y.pickT rfl rfl) ?_
       exact L.nil (E.joinJ ⟨true, rfl, rfl, h⟩ ⟨rfl, rfl, rfl, trivial⟩ (fun _ hw => hw))
      ·
       refine L.y rfl (Y.pickT rfl rfl) ?_
       exact L.nil (E.joinJ ⟨false, rfl, rfl, h⟩ ⟨rfl, rfl, rfl, trivial⟩ (fun _ hw => hw))
     ·
      refine L.y rfl (Y.pickT rfl rfl) ?_
      refine L.y rfl (Y.move rfl) ?_
      refine L.pass rfl rfl (by nofun) ?_
      refine L.pass rfl rfl (by nofun) ?_
      refine L.pass rfl rfl (by nofun) ?_
      refine L.y rfl (Y.pickF rfl rfl) ?_
      exact L.nil (E.joinJ ⟨false, rfl, rfl, h⟩ ⟨rfl, rfl, rfl, trivial⟩ (fun _ hw => hw))
    ·
     rintro _ _ ⟨gb2, rfl, rfl, h⟩
     rw [m50_quirref_clash_K2] at h
     rcases gb2 with _ | _
     ·
      replace h := iteF h
      refine L.y rfl (Y.move rfl) ?_
      refine L.pass rfl rfl (by nofun) ?_
      refine L.pass rfl rfl (by nofun) ?_
      refine L.pass rfl rfl (by nofun) ?_
      refine L.pass rfl rfl (by nofun) ?_
      refine L.pass rfl rfl (by nofun) ?_
      refine L.pass rfl rfl (by nofun) ?_
      refine L.y rfl (Y.pickF rfl rfl) ?_
      refine L.y rfl (Y.assign rfl) ?_
      refine L.nil (E.thenN (W.ret (E.ret1 rfl rfl (fun w1 hw => ?_))))
      obtain rfl := Option.some.inj h
      exact ⟨_, _, rfl, ⟨rfl, rfl⟩, hw.sel [] (by decide) rfl⟩
     ·
      replace h := iteT h
      refine L.y rfl (Y.move rfl) ?_
      refine L.take rfl (L.y rfl (Y.fieldP fd83_1 rfl) ?_)
      refine L.take rfl (L.y rfl (Y.loadP (i := 1) ag3 rfl rfl rfl) ?_)
      refine L.take rfl (L.y rfl (Y.fieldP fd83_1 rfl) ?_)
      refine L.take rfl (L.y rfl (Y.loadP (i := 0) ag3 rfl rfl rfl) ?_)
      refine L.take rfl (L.m (V := fun x3 => .int .i64 x3) h rfl (Y.addM rfl rfl) (fun x3 ex3 h => ?_))
      refine L.take rfl (L.y rfl (Y.gtr rfl rfl) ?_)
      refine L.y rfl (Y.pickT rfl rfl) ?_
      refine L.y rfl (Y.assign rfl) ?_
      refine L.nil (E.thenN (W.ret (E.ret1 rfl rfl (fun w1 hw => ?_))))
      obtain rfl := Option.some.inj h
      exact ⟨_, _, rfl, ⟨rfl, rfl⟩, hw.sel [] (by decide) rfl⟩
end Go.Proofs.Ytkhlapdkomnldaa
