/-
  Walks, printed by a program of mine.
  Conditions: none.
-/
import Derived.Test.YtjbajaofdgalfaaStM
import Derived.Test.YtjbajaofdgalfaaChecked
import Derived.KernelRfl
import Derived.Test.YtjbajaofdgalfaaSo
namespace Go.Proofs.Ytjbajaofdgalfaa
open Go.S
set_option linter.unusedVariables false
set_option linter.unusedSimpArgs false
theorem mixed : Try.prog.follows .mixedOrders = true := by kernel_rfl
theorem ag3 : aggB Try.prog 3 false = true := by kernel_rfl
theorem ag4 : aggB Try.prog 4 false = true := by kernel_rfl
theorem ag36 : aggB Try.prog 36 false = true := by kernel_rfl
theorem ag57 : aggB Try.prog 57 false = true := by kernel_rfl
theorem ag61 : aggB Try.prog 61 true = true := by kernel_rfl
theorem ag82 : aggB Try.prog 82 true = true := by kernel_rfl
theorem ag211 : aggB Try.prog 211 true = true := by kernel_rfl
theorem el3 : elemB Try.prog 3 1 8 = true := by kernel_rfl
theorem el61 : elemB Try.prog 61 3 24 = true := by kernel_rfl
theorem en33 : entB Try.prog 33 = true := by kernel_rfl
theorem en42 : entB Try.prog 42 = true := by kernel_rfl
theorem en43 : entB Try.prog 43 = true := by kernel_rfl
theorem en44 : entB Try.prog 44 = true := by kernel_rfl
theorem en45 : entB Try.prog 45 = true := by kernel_rfl
theorem en49 : entB Try.prog 49 = true := by kernel_rfl
theorem en147 : entB Try.prog 147 = true := by kernel_rfl
theorem en148 : entB Try.prog 148 = true := by kernel_rfl
theorem en149 : entB Try.prog 149 = true := by kernel_rfl
theorem en150 : entB Try.prog 150 = true := by kernel_rfl
theorem en151 : entB Try.prog 151 = true := by kernel_rfl
theorem en152 : entB Try.prog 152 = true := by kernel_rfl
theorem en196 : entB Try.prog 196 = true := by kernel_rfl
theorem en249 : entB Try.prog 249 = true := by kernel_rfl
theorem fd61_0 : fieldB Try.prog 61 0 0 = true := by kernel_rfl
theorem fd61_1 : fieldB Try.prog 61 1 1 = true := by kernel_rfl
theorem fd61_2 : fieldB Try.prog 61 2 2 = true := by kernel_rfl
theorem fd82_0 : fieldB Try.prog 82 0 0 = true := by kernel_rfl
theorem fd82_1 : fieldB Try.prog 82 1 1 = true := by kernel_rfl
theorem fd82_2 : fieldB Try.prog 82 2 2 = true := by kernel_rfl
theorem sz3 : szB Try.prog 3 1 = true := by kernel_rfl
theorem sz4 : szB Try.prog 4 1 = true := by kernel_rfl
theorem sz36 : szB Try.prog 36 1 = true := by kernel_rfl
theorem sz57 : szB Try.prog 57 1 = true := by kernel_rfl
theorem sz61 : szB Try.prog 61 3 = true := by kernel_rfl
theorem sz82 : szB Try.prog 82 3 = true := by kernel_rfl
theorem sz211 : szB Try.prog 211 12 = true := by kernel_rfl
theorem ze61 : zeroB Try.prog 61 = some [.int .i64 0, .int .i64 0, .int .i64 0] := by kernel_rfl
theorem ze82 : zeroB Try.prog 82 = some [.slice none 0 0, .slice none 0 0, .slice none 0 0] := by kernel_rfl
theorem ze211 : zeroB Try.prog 211 = some (List.replicate 12 (.bool false)) := by kernel_rfl
theorem ze216 : zeroB Try.prog 216 = some (List.replicate 20 (.int .i64 0)) := by kernel_rfl
theorem plain_TOp (l : List TOp) : Plain (l.map TOp.row) := by
  intro r hr u hu
  obtain ⟨x, _, rfl⟩ := List.mem_map.1 hr
  simp only [TOp.row, List.mem_cons, List.not_mem_nil, or_false] at hu
  rcases hu with rfl | rfl | rfl <;> rfl
theorem eg61 : Try.prog.eqGuardType Try.prog.depth 61 = false := by kernel_rfl
theorem sh61 (x : TOp) : shB Try.prog 5 61 x.row = true := by kernel_rfl
theorem inj61 (x y : TOp) (h : x.row = y.row) : x = y := by
  cases x; cases y
  simpa [TOp.row, st_inj] using h
set_option maxRecDepth 100000 in
set_option maxHeartbeats 8000000 in
theorem w49_run_Check (a0 : (List TOp)) (u0 : Value) (w : World) (r : Int) (h : m49_run_Check a0 = some r) (hA0 : At w u0 3 (a0.map TOp.row)) : Does Try.prog 49 [u0] w fun u m => u = .int .i64 r ∧ m = [] := by
  rw [m49_run_Check] at h
  refine body (n := 55) Try.func49 rfl rfl rfl (Cls.refl w) ?_
  refine W.seq (W.region (L.y rfl (Y.assign rfl) ?_))
  refine L.nil (E.thenN (W.seqJ (fun gs D => gs = [(0, u0)] ∧ D = Cls w [] [] ∧ m49_run_Check_K1 a0 = some r) ?_ ?_))
  ·
   refine W.seq (W.region (L.y rfl (Y.move rfl) ?_))
   refine L.y rfl (Y.lenM (g := TOp.row) (l := a0) Try.underlying57 rfl (fun w' hw => hA0.cls0 hw)) ?_
   refine L.ite h rfl (Y.gtr rfl rfl) (fun c20 h => ?_) (fun c20 h => ?_)
   ·
    refine L.nil (E.thenN (W.condT rfl ?_))
    refine W.seq (W.region (L.y rfl (Y.assign rfl) ?_))
    refine L.nil (E.thenN (W.ret (E.KSR (E.ret1 rfl rfl (fun w1 hw => ?_)))))
    obtain rfl := Option.some.inj h
    exact ⟨_, _, rfl, ⟨rfl, rfl⟩, hw⟩
   ·
    refine L.nil (E.thenN (W.condF rfl ?_))
    exact W.skip (E.joinJ ⟨rfl, rfl, h⟩ ⟨rfl, trivial⟩ (fun _ hw => hw))
  ·
   rintro _ _ ⟨rfl, rfl, h⟩
   rw [m49_run_Check_K1] at h
   refine W.seq (W.region (L.alloc rfl ze211 ?_))
   intro b1
   refine L.to (D := Cls w [] [.obj b1 (((List.replicate 12 (false : Bool)).map B).flatten) 211]) (fun _ hw => by first | exact hw | simpa [I, B, SR] using hw) ?_
   refine L.nil (E.thenN (W.seqJ (fun gs D => gs = [] ∧ D = Cls w [] [] ∧ m49_run_Check_K2 = some r) ?_ ?_))
   ·
    refine W.seq (W.region (L.y rfl (Y.move rfl) ?_))
    refine L.y rfl (Y.lenM (g := TOp.row) (l := a0) Try.underlying57 rfl (fun w' hw => hA0.cls0 hw)) ?_
    refine L.y rfl (Y.move rfl) ?_
    refine L.nil (E.thenN (W.block (W.loopJ (fun m gs D => ∃ (gx1 : Int) (gl2 : (List Bool)), gs = [(3, pt b1 0), (9, u0), (10, .int .i64 (a0.length : Int)), (11, .int .i64 gx1)] ∧ D = Cls w [] [.obj b1 ((gl2.map B).flatten) 211] ∧ m49_run_Check_L1 a0 m gx1 gl2 = some r) ⟨0, (List.replicate 12 (false : Bool)), rfl, rfl, h⟩ ⟨rfl, rfl, rfl, rfl, trivial⟩ (fun _ hw => hw) ?_)))
    rintro m _ _ ⟨gx1, gl2, rfl, rfl, h⟩
    rcases m with _ | m
    · rw [m49_run_Check_L1] at h; cases h
    rw [m49_run_Check_L1] at h
    generalize hg1 : m49_run_Check_L1 a0 m = go1 at h
    rw [m49_run_Check_L1B] at h
    refine W.seq (W.region (L.ite h rfl (Y.lss rfl rfl) (fun c2 h => ?_) (fun c2 h => ?_)))
    ·
     refine L.nil (E.thenN (W.seq (W.condT rfl ?_)))
     refine W.skip (E.thenN (W.seqJ (fun gs D => ∃ (gl3 : (List Bool)), gs = [(3, pt b1 0), (9, u0), (10, .int .i64 (a0.length : Int)), (11, .int .i64 gx1)] ∧ D = Cls w [] [.obj b1 ((gl3.map B).flatten) 211] ∧ m49_run_Check_K3 gx1 go1 gl3 = some r) ?_ ?_))
     ·
      refine W.block (W.seq (W.region (L.m (V := fun _ => el u0 (gx1.toNat * 3)) h rfl (Y.indexM (g := TOp.row) (l := a0) Try.underlying57 sz61 rfl rfl (fun w' hw => hA0.cls0 hw)) (fun x4 ex4 h => ?_))))
      refine L.y rfl (Y.loadEN (r := [.int .i64 x4.Tx, .int .i64 x4.Kind, .int .i64 x4.Item]) ag61 sz61 rfl (fun w' hw => hA0.cls0 hw) (idx_map ex4) rfl) ?_
      refine L.alloc rfl ze61 ?_
      intro b5
      refine L.store (i := 0) sz61 rfl rfl rfl rfl (by simp [Value.oneCell', Value.cells, st]) rfl (Nat.le_of_ble_eq_true rfl) ?_
      refine L.nil (E.thenN (W.seqJ (fun gs D => gs = [(3, pt b1 0), (5, pt b5 0), (9, u0), (10, .int .i64 (a0.length : Int)), (11, .int .i64 gx1)] ∧ D = Cls w [] [.obj b5 [.int .i64 x4.Tx, .int .i64 x4.Kind, .int .i64 x4.Item] 61, .obj b1 ((gl2.map B).flatten) 211] ∧ m49_run_Check_K4 x4 gl2 gx1 go1 = some r) ?_ ?_))
      ·
       refine W.seq (W.region (L.cutJ 8 (fun gs D => ∃ (gb5 : Bool), gs = [(3, pt b1 0), (5, pt b5 0), (9, u0), (10, .int .i64 (a0.length : Int)), (11, .int .i64 gx1), (22, .bool gb5)] ∧ D = Cls w [] [.obj b5 [.int .i64 x4.Tx, .int .i64 x4.Kind, .int .i64 x4.Item] 61, .obj b1 ((gl2.map B).flatten) 211] ∧ m49_run_Check_K7 x4 gl2 gx1 go1 gb5 = some r) ?_ ?_))
       ·
        refine L.y rfl (Y.fieldP fd61_0 rfl) ?_
        refine L.y rfl (Y.loadP (i := 0) ag3 rfl rfl rfl) ?_
        refine L.ite h rfl (Y.lss rfl rfl) (fun c18 h => ?_) (fun c18 h => ?_)
        ·
         refine L.y rfl (Y.move rfl) ?_
         refine L.pass rfl rfl (by nofun) ?_
         refine L.pass rfl rfl (by nofun) ?_
         refine L.pass rfl rfl (by nofun) ?_
         refine L.y rfl (Y.pickT rfl rfl) ?_
         exact L.nil (E.joinJ ⟨true, rfl, rfl, h⟩ ⟨rfl, rfl, rfl, rfl, rfl, rfl, trivial⟩ (fun _ hw => hw))
        ·
         refine L.y rfl (Y.move rfl) ?_
         refine L.take rfl (L.y rfl (Y.fieldP fd61_0 rfl) ?_)
         refine L.take rfl (L.y rfl (Y.loadP (i := 0) ag3 rfl rfl rfl) ?_)
         refine L.take rfl (L.ite h rfl (Y.geq rfl rfl) (fun c19 h => ?_) (fun c19 h => ?_))
         ·
          refine L.y rfl (Y.pickF rfl rfl) ?_
          exact L.nil (E.joinJ ⟨true, rfl, rfl, h⟩ ⟨rfl, rfl, rfl, rfl, rfl, rfl, trivial⟩ (fun _ hw => hw))
         ·
          refine L.y rfl (Y.pickF rfl rfl) ?_
          exact L.nil (E.joinJ ⟨false, rfl, rfl, h⟩ ⟨rfl, rfl, rfl, rfl, rfl, rfl, trivial⟩ (fun _ hw => hw))
       ·
        rintro _ _ ⟨gb5, rfl, rfl, h⟩
        rw [m49_run_Check_K7] at h
        rcases gb5 with _ | _
        ·
         replace h := iteF h
         refine L.y rfl (Y.move rfl) ?_
         refine L.take rfl (L.y rfl (Y.fieldP fd61_2 rfl) ?_)
         refine L.take rfl (L.y rfl (Y.loadP (i := 0) ag3 rfl rfl rfl) ?_)
         refine L.take rfl (L.ite h rfl (Y.lss rfl rfl) (fun c16 h => ?_) (fun c16 h => ?_))
         ·
          refine L.y rfl (Y.pickF rfl rfl) ?_
          refine L.y rfl (Y.move rfl) ?_
          refine L.pass rfl rfl (by nofun) ?_
          refine L.pass rfl rfl (by nofun) ?_
          refine L.pass rfl rfl (by nofun) ?_
          refine L.y rfl (Y.pickT rfl rfl) ?_
          refine L.nil (E.thenN (W.condT rfl ?_))
          refine W.seq (W.region (L.y rfl (Y.assign rfl) ?_))
          refine L.nil (E.thenN (W.ret (E.KSR (E.blockR (E.KSR (E.KLR (E.blockR (E.KSR (E.ret1 rfl rfl (fun w1 hw => ?_))))))))))
          obtain rfl := Option.some.inj h
          exact ⟨_, _, rfl, ⟨rfl, rfl⟩, hw.sel [] (by decide) rfl⟩
         ·
          refine L.y rfl (Y.pickF rfl rfl) ?_
          refine L.y rfl (Y.move rfl) ?_
          refine L.take rfl (L.y rfl (Y.fieldP fd61_2 rfl) ?_)
          refine L.take rfl (L.y rfl (Y.loadP (i := 0) ag3 rfl rfl rfl) ?_)
          refine L.take rfl (L.ite h rfl (Y.geq rfl rfl) (fun c17 h => ?_) (fun c17 h => ?_))
          ·
           refine L.y rfl (Y.pickF rfl rfl) ?_
           refine L.nil (E.thenN (W.condT rfl ?_))
           refine W.seq (W.region (L.y rfl (Y.assign rfl) ?_))
           refine L.nil (E.thenN (W.ret (E.KSR (E.blockR (E.KSR (E.KLR (E.blockR (E.KSR (E.ret1 rfl rfl (fun w1 hw => ?_))))))))))
           obtain rfl := Option.some.inj h
           exact ⟨_, _, rfl, ⟨rfl, rfl⟩, hw.sel [] (by decide) rfl⟩
          ·
           refine L.y rfl (Y.pickF rfl rfl) ?_
           refine L.nil (E.thenN (W.condF rfl ?_))
           exact W.skip (E.joinJ ⟨rfl, rfl, h⟩ ⟨rfl, rfl, rfl, rfl, rfl, trivial⟩ (fun _ hw => hw))
        ·
         replace h := iteT h
         refine L.y rfl (Y.move rfl) ?_
         refine L.pass rfl rfl (by nofun) ?_
         refine L.pass rfl rfl (by nofun) ?_
         refine L.pass rfl rfl (by nofun) ?_
         refine L.y rfl (Y.pickT rfl rfl) ?_
         refine L.y rfl (Y.move rfl) ?_
         refine L.pass rfl rfl (by nofun) ?_
         refine L.pass rfl rfl (by nofun) ?_
         refine L.pass rfl rfl (by nofun) ?_
         refine L.y rfl (Y.pickT rfl rfl) ?_
         refine L.nil (E.thenN (W.condT rfl ?_))
         refine W.seq (W.region (L.y rfl (Y.assign rfl) ?_))
         refine L.nil (E.thenN (W.ret (E.KSR (E.blockR (E.KSR (E.KLR (E.blockR (E.KSR (E.ret1 rfl rfl (fun w1 hw => ?_))))))))))
         obtain rfl := Option.some.inj h
         exact ⟨_, _, rfl, ⟨rfl, rfl⟩, hw.sel [] (by decide) rfl⟩
      ·
       rintro _ _ ⟨rfl, rfl, h⟩
       rw [m49_run_Check_K4] at h
       refine W.seqJ (fun gs D => gs = [(3, pt b1 0), (5, pt b5 0), (9, u0), (10, .int .i64 (a0.length : Int)), (11, .int .i64 gx1)] ∧ D = Cls w [] [.obj b5 [.int .i64 x4.Tx, .int .i64 x4.Kind, .int .i64 x4.Item] 61, .obj b1 ((gl2.map B).flatten) 211] ∧ m49_run_Check_K5 gl2 x4 gx1 go1 = some r) ?_ ?_
       ·
        refine W.seq (W.region (L.y rfl (Y.fieldP fd61_1 rfl) ?_))
        refine L.y rfl (Y.loadP (i := 0) ag3 rfl rfl rfl) ?_
        refine L.nil (E.thenN (W.block (W.seqJ (fun gs D => ∃ (gb4 : Bool), gs = [(3, pt b1 0), (5, pt b5 0), (9, u0), (10, .int .i64 (a0.length : Int)), (11, .int .i64 gx1), (34, .int .i64 x4.Kind), (35, .bool gb4)] ∧ D = Cls w [] [.obj b5 [.int .i64 x4.Tx, .int .i64 x4.Kind, .int .i64 x4.Item] 61, .obj b1 ((gl2.map B).flatten) 211] ∧ m49_run_Check_K6 gl2 x4 gx1 go1 gb4 = some r) ?_ ?_)))
        ·
         refine W.seq (W.region (L.ite h rfl (Y.eql rfl rfl) (fun c14 h => ?_) (fun c14 h => ?_)))
         ·
          refine L.y rfl (Y.assign rfl) ?_
          refine L.nil (E.thenN (W.condT rfl ?_))
          exact W.skip (E.joinJ ⟨true, rfl, rfl, h⟩ ⟨rfl, rfl, rfl, rfl, rfl, rfl, rfl, trivial⟩ (fun _ hw => hw))
         ·
          refine L.y rfl (Y.assign rfl) ?_
          refine L.nil (E.thenN (W.condF rfl ?_))
          refine W.region (L.ite h rfl (Y.eql rfl rfl) (fun c15 h => ?_) (fun c15 h => ?_))
          ·
           refine L.y rfl (Y.assign rfl) ?_
           exact L.nil (E.joinJ ⟨true, rfl, rfl, h⟩ ⟨rfl, rfl, rfl, rfl, rfl, rfl, rfl, trivial⟩ (fun _ hw => hw))
          ·
           refine L.y rfl (Y.assign rfl) ?_
           exact L.nil (E.joinJ ⟨false, rfl, rfl, h⟩ ⟨rfl, rfl, rfl, rfl, rfl, rfl, rfl, trivial⟩ (fun _ hw => hw))
        ·
         rintro _ _ ⟨gb4, rfl, rfl, h⟩
         rw [m49_run_Check_K6] at h
         rcases gb4 with _ | _
         ·
          replace h := iteF h
          refine W.condF rfl ?_
          refine W.seq (W.seq (W.region (L.ite h rfl (Y.eql rfl rfl) (fun c10 h => ?_) (fun c10 h => ?_))))
          ·
           refine L.y rfl (Y.assign rfl) ?_
           refine L.nil (E.thenN (W.condT rfl ?_))
           refine W.skip (E.thenN (W.condT rfl ?_))
           refine W.seq (W.region (L.y rfl (Y.fieldP fd61_2 rfl) ?_))
           refine L.y rfl (Y.loadP (i := 0) ag3 rfl rfl rfl) ?_
           refine L.ite h rfl (Y.neq rfl rfl) (fun c11 h => ?_) (fun c11 h => ?_)
           ·
            refine L.nil (E.thenN (W.condT rfl ?_))
            refine W.seq (W.region (L.y rfl (Y.assign rfl) ?_))
            refine L.nil (E.thenN (W.ret (E.blockR (E.KSR (E.blockR (E.KSR (E.KLR (E.blockR (E.KSR (E.ret1 rfl rfl (fun w1 hw => ?_)))))))))))
            obtain rfl := Option.some.inj h
            exact ⟨_, _, rfl, ⟨rfl, rfl⟩, hw.sel [] (by decide) rfl⟩
           ·
            refine L.nil (E.thenN (W.condF rfl ?_))
            exact W.skip (E.blockN (E.joinJ ⟨rfl, rfl, h⟩ ⟨rfl, rfl, rfl, rfl, rfl, trivial⟩ (fun _ hw => hw)))
          ·
           refine L.y rfl (Y.assign rfl) ?_
           refine L.nil (E.thenN (W.condF rfl ?_))
           refine W.region (L.ite h rfl (Y.eql rfl rfl) (fun c12 h => ?_) (fun c12 h => ?_))
           ·
            refine L.y rfl (Y.assign rfl) ?_
            refine L.nil (E.thenN (W.condT rfl ?_))
            refine W.seq (W.region (L.y rfl (Y.fieldP fd61_2 rfl) ?_))
            refine L.y rfl (Y.loadP (i := 0) ag3 rfl rfl rfl) ?_
            refine L.ite h rfl (Y.neq rfl rfl) (fun c13 h => ?_) (fun c13 h => ?_)
            ·
             refine L.nil (E.thenN (W.condT rfl ?_))
             refine W.seq (W.region (L.y rfl (Y.assign rfl) ?_))
             refine L.nil (E.thenN (W.ret (E.blockR (E.KSR (E.blockR (E.KSR (E.KLR (E.blockR (E.KSR (E.ret1 rfl rfl (fun w1 hw => ?_)))))))))))
             obtain rfl := Option.some.inj h
             exact ⟨_, _, rfl, ⟨rfl, rfl⟩, hw.sel [] (by decide) rfl⟩
            ·
             refine L.nil (E.thenN (W.condF rfl ?_))
             exact W.skip (E.blockN (E.joinJ ⟨rfl, rfl, h⟩ ⟨rfl, rfl, rfl, rfl, rfl, trivial⟩ (fun _ hw => hw)))
           ·
            refine L.y rfl (Y.assign rfl) ?_
            refine L.nil (E.thenN (W.condF rfl ?_))
            refine W.seq (W.region (L.y rfl (Y.assign rfl) ?_))
            refine L.nil (E.thenN (W.ret (E.blockR (E.KSR (E.blockR (E.KSR (E.KLR (E.blockR (E.KSR (E.ret1 rfl rfl (fun w1 hw => ?_)))))))))))
            obtain rfl := Option.some.inj h
            exact ⟨_, _, rfl, ⟨rfl, rfl⟩, hw.sel [] (by decide) rfl⟩
         ·
          replace h := iteT h
          refine W.condT rfl ?_
          exact W.skip (E.blockN (E.joinJ ⟨rfl, rfl, h⟩ ⟨rfl, rfl, rfl, rfl, rfl, trivial⟩ (fun _ hw => hw)))
       ·
        rintro _ _ ⟨rfl, rfl, h⟩
        rw [m49_run_Check_K5] at h
        refine W.seq (W.seq (W.region (L.y rfl (Y.fieldP fd61_0 rfl) ?_)))
        refine L.y rfl (Y.loadP (i := 0) ag3 rfl rfl rfl) ?_
        refine L.m (V := fun _ => pt b1 (0 + x4.Tx.toNat * 1)) h rfl (Y.indexAM (l := gl2) Try.underlying211 sz4 rfl rfl) (fun x6 ex6 h => ?_)
        refine L.iteB h rfl (Y.loadAr (q := 1) (row := B) (j := 0) (p := .bool x6) ag4 rfl rfl rfl (fun _ => rfl) (idxA_idx ex6) rfl) (fun c7 h => ?_) (fun c7 h => ?_)
        ·
         refine L.nil (E.thenN (W.condT rfl ?_))
         refine W.seq (W.region (L.y rfl (Y.assign rfl) ?_))
         refine L.nil (E.thenN (W.ret (E.thenR (E.blockR (E.KSR (E.KLR (E.blockR (E.KSR (E.ret1 rfl rfl (fun w1 hw => ?_))))))))))
         obtain rfl := Option.some.inj h
         exact ⟨_, _, rfl, ⟨rfl, rfl⟩, hw.sel [] (by decide) rfl⟩
        ·
         refine L.nil (E.thenN (W.condF rfl ?_))
         refine W.skip (E.thenN (W.region (L.y rfl (Y.fieldP fd61_0 rfl) ?_)))
         refine L.y rfl (Y.loadP (i := 0) ag3 rfl rfl rfl) ?_
         refine L.y rfl (Y.fieldP fd61_1 rfl) ?_
         refine L.y rfl (Y.loadP (i := 0) ag3 rfl rfl rfl) ?_
         refine L.y rfl (Y.geq rfl rfl) ?_
         refine L.m (V := fun _ => pt b1 (0 + x4.Tx.toNat * 1)) h rfl (Y.indexAM (l := gl2) Try.underlying211 sz4 rfl rfl) (fun x8 ex8 h => ?_)
         refine L.storeArM (q := 1) (row := B) (vs := [.bool (decide (3 ≤ x4.Kind))]) (j := 0) (u1 := decide (3 ≤ x4.Kind)) h sz4 rfl rfl rfl rfl rfl (all1 rfl all0) rfl (fun _ => rfl) (idxA_idx ex8) rfl rfl ?_
         intro l9 el9 h
         exact L.nil (E.blockN (E.joinJ ⟨l9, rfl, rfl, h⟩ ⟨rfl, rfl, rfl, rfl, trivial⟩ (fun _ hw => hw.sel [1] (by decide) rfl)))
     ·
      rintro _ _ ⟨gl3, rfl, rfl, h⟩
      rw [m49_run_Check_K3] at h
      refine W.region (L.m (V := fun x3 => .int .i64 x3) h rfl (Y.addM rfl rfl) (fun x3 ex3 h => ?_))
      refine L.y rfl (Y.move rfl) ?_
      exact L.nil (E.againJ ⟨x3, gl3, rfl, rfl, by rw [hg1]; exact h⟩ (Nat.lt_succ_self _) ⟨rfl, rfl, rfl, rfl, trivial⟩ (fun _ hw => hw))
    ·
     refine L.nil (E.thenN (W.seq (W.condF rfl ?_)))
     exact W.exit (E.thenX (E.KLX (E.blockX (E.joinJ ⟨rfl, rfl, h⟩ trivial (fun _ hw => hw.sel [] (by decide) rfl)))))
   ·
    rintro _ _ ⟨rfl, rfl, h⟩
    rw [m49_run_Check_K2] at h
    refine W.seq (W.region (L.y rfl (Y.assign rfl) ?_))
    refine L.nil (E.thenN (W.ret (E.ret1 rfl rfl (fun w1 hw => ?_))))
    obtain rfl := Option.some.inj h
    exact ⟨_, _, rfl, ⟨rfl, rfl⟩, hw⟩
set_option maxRecDepth 100000 in
set_option maxHeartbeats 8000000 in
theorem w42_stamp_Play (a0 : (List TOp)) (a1 : Bool) (u0 : Value) (w : World) (r : (TPlayed × Int)) (h : m42_stamp_Play a0 a1 = some r) (hA0 : At w u0 3 (a0.map TOp.row)) : Does Try.prog 42 [u0, .bool a1] w fun u m => ∃ v0 v1 v2, u = .tuple #[.agg #[v0, v1, v2], .int .i64 r.2] ∧ m = [.sl v0 61 3 (r.1.Run.map TOp.row), .sl v1 3 1 (r.1.Dead.map I), .sl v2 3 1 (r.1.Late.map I)] := by
  rw [m42_stamp_Play] at h
  refine body (n := 126) Try.func42 rfl rfl rfl (Cls.refl w) ?_
  refine W.seq (W.region (L.alloc rfl ze82 ?_))
  intro b1
  refine L.y rfl (Y.assign rfl) ?_
  refine L.nil (E.thenN (W.seqJ (fun gs D => gs = [(0, u0), (1, .bool a1), (4, pt b1 0)] ∧ D = Cls w [] [.obj b1 [.slice none 0 0, .slice none 0 0, .slice none 0 0] 82] ∧ m42_stamp_Play_K1 a0 a1 = some r) ?_ ?_))
  ·
   refine W.seq (W.region (L.y rfl (Y.move rfl) ?_))
   obtain ⟨x58, e59, h⟩ := bind1S h
   refine L.y rfl (Y.does en49 rfl (fun w' hw => (w49_run_Check a0 u0 w' _ e59 (hA0.cls0 hw)).mono (fun _ _ h => h.1))) ?_
   refine L.y rfl (Y.assign rfl) ?_
   refine L.nil (E.thenN (W.seq (W.region (L.y rfl (Y.move rfl) ?_))))
   refine L.ite h rfl (Y.neq rfl rfl) (fun c60 h => ?_) (fun c60 h => ?_)
   ·
    refine L.nil (E.thenN (W.condT rfl ?_))
    refine W.seq (W.region (L.y rfl (Y.build (cells := #[.slice none 0 0, .slice none 0 0, .slice none 0 0]) rfl (by kernel_rfl)) ?_))
    refine L.y rfl (Y.move rfl) ?_
    refine L.store (i := 0) sz82 rfl rfl rfl rfl (by simp [Value.oneCell', Value.cells, st]) rfl (Nat.le_of_ble_eq_true rfl) ?_
    refine L.y rfl (Y.assign rfl) ?_
    refine L.nil (E.thenN (W.ret (E.KSR (E.retR2 rfl (Rv.cellW (i := 0) ag82 sz82 rfl rfl rfl) (Rv.tmp rfl) (fun w1 hw => ?_)))))
    obtain rfl := Option.some.inj h
    exact ⟨_, _, rfl, ⟨_, _, _, rfl, rfl⟩, (((hw.nilSl 61 3).nilSl 3 1).nilSl 3 1).sel [2, 1, 0] (by decide) rfl⟩
   ·
    refine L.nil (E.thenN (W.condF rfl ?_))
    exact W.skip (E.joinJ ⟨rfl, rfl, h⟩ ⟨rfl, rfl, rfl, trivial⟩ (fun _ hw => hw))
  ·
   rintro _ _ ⟨rfl, rfl, h⟩
   rw [m42_stamp_Play_K1] at h
   refine W.seq (W.region (L.alloc rfl ze82 ?_))
   intro b2
   refine L.nil (E.thenN (W.seq (W.region (L.alloc rfl ze211 ?_))))
   intro b3
   refine L.to (D := Cls w [] [.obj b3 (((List.replicate 12 (false : Bool)).map B).flatten) 211, .obj b2 [.slice none 0 0, .slice none 0 0, .slice none 0 0] 82, .obj b1 [.slice none 0 0, .slice none 0 0, .slice none 0 0] 82]) (fun _ hw => by first | exact hw | simpa [I, B, SR] using hw) ?_
   refine L.nil (E.thenN (W.seq (W.region (L.alloc rfl ze216 ?_))))
   intro b4
   refine L.to (D := Cls w [] [.obj b4 (((List.replicate 20 (0 : Int)).map I).flatten) 216, .obj b3 (((List.replicate 12 (false : Bool)).map B).flatten) 211, .obj b2 [.slice none 0 0, .slice none 0 0, .slice none 0 0] 82, .obj b1 [.slice none 0 0, .slice none 0 0, .slice none 0 0] 82]) (fun _ hw => by first | exact hw | simpa [I, B, SR] using hw) ?_
   refine L.alloc rfl ze216 ?_
   intro b5
   refine L.to (D := Cls w [] [.obj b5 (((List.replicate 20 (0 : Int)).map I).flatten) 216, .obj b4 (((List.replicate 20 (0 : Int)).map I).flatten) 216, .obj b3 (((List.replicate 12 (false : Bool)).map B).flatten) 211, .obj b2 [.slice none 0 0, .slice none 0 0, .slice none 0 0] 82, .obj b1 [.slice none 0 0, .slice none 0 0, .slice none 0 0] 82]) (fun _ hw => by first | exact hw | simpa [I, B, SR] using hw) ?_
   refine L.nil (E.thenN (W.seqJ (fun gs D => ∃ (gl1 : (List Bool)) (gv2 : Value) (gl3 : (List TOp)), gs = [(4, pt b1 0), (7, pt b2 0), (8, pt b3 0)] ∧ D = Cls w [] [.obj b3 ((gl1.map B).flatten) 211, .obj b2 [gv2, .slice none 0 0, .slice none 0 0] 82, .obj b1 [.slice none 0 0, .slice none 0 0, .slice none 0 0] 82, .sl gv2 61 3 (gl3.map TOp.row)] ∧ m42_stamp_Play_K2 gl1 gl3 = some r) ?_ ?_))
   ·
    refine W.seq (W.region (L.y rfl (Y.move rfl) ?_))
    refine L.y rfl (Y.lenM (g := TOp.row) (l := a0) Try.underlying57 rfl (fun w' hw => hA0.cls0 hw)) ?_
    refine L.y rfl (Y.move rfl) ?_
    refine L.nil (E.thenN (W.block (W.nilSl 61 3 ?_)))
    refine W.loopJ (fun m gs D => ∃ (gx9 : Int) (gl10 : (List Int)) (gl11 : (List Int)) (gl12 : (List Bool)) (gv13 : Value) (gl14 : (List TOp)), gs = [(1, .bool a1), (4, pt b1 0), (7, pt b2 0), (8, pt b3 0), (9, pt b4 0), (10, pt b5 0), (22, u0), (23, .int .i64 (a0.length : Int)), (24, .int .i64 gx9)] ∧ D = Cls w [] [.obj b5 ((gl10.map I).flatten) 216, .obj b4 ((gl11.map I).flatten) 216, .obj b3 ((gl12.map B).flatten) 211, .obj b2 [gv13, .slice none 0 0, .slice none 0 0] 82, .obj b1 [.slice none 0 0, .slice none 0 0, .slice none 0 0] 82, .sl gv13 61 3 (gl14.map TOp.row)] ∧ m42_stamp_Play_L2 a0 a1 m gx9 gl10 gl11 gl12 gl14 = some r) ⟨0, (List.replicate 20 (0 : Int)), (List.replicate 20 (0 : Int)), (List.replicate 12 (false : Bool)), .slice none 0 0, [], rfl, rfl, h⟩ ⟨rfl, rfl, rfl, rfl, rfl, rfl, rfl, rfl, rfl, trivial⟩ (fun _ hw => hw.sel [1, 2, 3, 4, 5, 0] (by decide) rfl) ?_
    rintro m _ _ ⟨gx9, gl10, gl11, gl12, gv13, gl14, rfl, rfl, h⟩
    rcases m with _ | m
    · rw [m42_stamp_Play_L2] at h; cases h
    rw [m42_stamp_Play_L2] at h
    generalize hg2 : m42_stamp_Play_L2 a0 a1 m = go2 at h
    rw [m42_stamp_Play_L2B] at h
    refine W.seq (W.region (L.ite h rfl (Y.lss rfl rfl) (fun c15 h => ?_) (fun c15 h => ?_)))
    ·
     refine L.nil (E.thenN (W.seq (W.condT rfl ?_)))
     refine W.skip (E.thenN (W.seqJ (fun gs D => ∃ (gl15 : (List Int)) (gl16 : (List Int)) (gl17 : (List Bool)) (gv18 : Value) (gl19 : (List TOp)), gs = [(1, .bool a1), (4, pt b1 0), (7, pt b2 0), (8, pt b3 0), (9, pt b4 0), (10, pt b5 0), (22, u0), (23, .int .i64 (a0.length : Int)), (24, .int .i64 gx9)] ∧ D = Cls w [] [.obj b5 ((gl15.map I).flatten) 216, .obj b4 ((gl16.map I).flatten) 216, .obj b3 ((gl17.map B).flatten) 211, .obj b2 [gv18, .slice none 0 0, .slice none 0 0] 82, .obj b1 [.slice none 0 0, .slice none 0 0, .slice none 0 0] 82, .sl gv18 61 3 (gl19.map TOp.row)] ∧ m42_stamp_Play_K4 gx9 go2 gl15 gl16 gl17 gl19 = some r) ?_ ?_))
     ·
      refine W.block (W.seq (W.region (L.m (V := fun _ => el u0 (gx9.toNat * 3)) h rfl (Y.indexM (g := TOp.row) (l := a0) Try.underlying57 sz61 rfl rfl (fun w' hw => hA0.cls0 hw)) (fun x17 ex17 h => ?_))))
      refine L.y rfl (Y.loadEN (r := [.int .i64 x17.Tx, .int .i64 x17.Kind, .int .i64 x17.Item]) ag61 sz61 rfl (fun w' hw => hA0.cls0 hw) (idx_map ex17) rfl) ?_
      refine L.alloc rfl ze61 ?_
      intro b18
      refine L.store (i := 0) sz61 rfl rfl rfl rfl (by simp [Value.oneCell', Value.cells, st]) rfl (Nat.le_of_ble_eq_true rfl) ?_
      refine L.nil (E.thenN (W.seqJ (fun gs D => gs = [(1, .bool a1), (4, pt b1 0), (7, pt b2 0), (8, pt b3 0), (9, pt b4 0), (10, pt b5 0), (12, pt b18 0), (22, u0), (23, .int .i64 (a0.length : Int)), (24, .int .i64 gx9)] ∧ D = Cls w [] [.obj b18 [.int .i64 x17.Tx, .int .i64 x17.Kind, .int .i64 x17.Item] 61, .obj b5 ((gl10.map I).flatten) 216, .obj b4 ((gl11.map I).flatten) 216, .obj b3 ((gl12.map B).flatten) 211, .obj b2 [gv13, .slice none 0 0, .slice none 0 0] 82, .obj b1 [.slice none 0 0, .slice none 0 0, .slice none 0 0] 82, .sl gv13 61 3 (gl14.map TOp.row)] ∧ m42_stamp_Play_K5 x17 gl14 gx9 go2 gl10 gl11 gl12 a1 = some r) ?_ ?_))
      ·
       refine W.seq (W.region (L.y rfl (Y.fieldP fd61_0 rfl) ?_))
       refine L.y rfl (Y.loadP (i := 0) ag3 rfl rfl rfl) ?_
       refine L.m (V := fun _ => pt b3 (0 + x17.Tx.toNat * 1)) h rfl (Y.indexAM (l := gl12) Try.underlying211 sz4 rfl rfl) (fun x56 ex56 h => ?_)
       refine L.iteB h rfl (Y.loadAr (q := 3) (row := B) (j := 0) (p := .bool x56) ag4 rfl rfl rfl (fun _ => rfl) (idxA_idx ex56) rfl) (fun c57 h => ?_) (fun c57 h => ?_)
       ·
        refine L.nil (E.thenN (W.condT rfl ?_))
        exact W.exit (E.KSX (E.blockX (E.joinJ ⟨gl10, gl11, gl12, gv13, gl14, rfl, rfl, h⟩ ⟨rfl, rfl, rfl, rfl, rfl, rfl, rfl, rfl, rfl, trivial⟩ (fun _ hw => hw.sel [1, 2, 3, 4, 5, 6] (by decide) rfl))))
       ·
        refine L.nil (E.thenN (W.condF rfl ?_))
        exact W.skip (E.joinJ ⟨rfl, rfl, h⟩ ⟨rfl, rfl, rfl, rfl, rfl, rfl, rfl, rfl, rfl, rfl, trivial⟩ (fun _ hw => hw))
      ·
       rintro _ _ ⟨rfl, rfl, h⟩
       rw [m42_stamp_Play_K5] at h
       refine W.seq (W.region (L.y rfl (Y.fieldP fd61_0 rfl) ?_))
       refine L.y rfl (Y.loadP (i := 0) ag3 rfl rfl rfl) ?_
       refine L.m (V := fun x19 => .int .i64 x19) h rfl (Y.addM rfl rfl) (fun x19 ex19 h => ?_)
       refine L.y rfl (Y.assign rfl) ?_
       refine L.nil (E.thenN (W.seqJ (fun gs D => ∃ (gx20 : Int) (gx21 : Int) (gl22 : (List Int)) (gl23 : (List Int)) (gl24 : (List Bool)), gs = [(1, .bool a1), (4, pt b1 0), (7, pt b2 0), (8, pt b3 0), (9, pt b4 0), (10, pt b5 0), (12, pt b18 0), (22, u0), (23, .int .i64 (a0.length : Int)), (24, .int .i64 gx9)] ∧ D = Cls w [] [.obj b18 [.int .i64 x17.Tx, .int .i64 gx20, .int .i64 gx21] 61, .obj b5 ((gl22.map I).flatten) 216, .obj b4 ((gl23.map I).flatten) 216, .obj b3 ((gl24.map B).flatten) 211, .obj b2 [gv13, .slice none 0 0, .slice none 0 0] 82, .obj b1 [.slice none 0 0, .slice none 0 0, .slice none 0 0] 82, .sl gv13 61 3 (gl14.map TOp.row)] ∧ m42_stamp_Play_K6 gl14 x17 gx9 go2 gx20 gx21 gl22 gl23 gl24 = some r) ?_ ?_))
       ·
        refine W.block (W.seq (W.region (L.y rfl (Y.fieldP fd61_1 rfl) ?_)))
        refine L.y rfl (Y.loadP (i := 0) ag3 rfl rfl rfl) ?_
        refine L.ite h rfl (Y.geq rfl rfl) (fun c23 h => ?_) (fun c23 h => ?_)
        ·
         refine L.y rfl (Y.assign rfl) ?_
         refine L.nil (E.thenN (W.condT rfl ?_))
         exact W.skip (E.blockN (E.joinJ ⟨x17.Kind, x17.Item, gl10, gl11, gl12, rfl, rfl, h⟩ ⟨rfl, rfl, rfl, rfl, rfl, rfl, rfl, rfl, rfl, rfl, trivial⟩ (fun _ hw => hw)))
        ·
         refine L.y rfl (Y.assign rfl) ?_
         refine L.nil (E.thenN (W.condF rfl ?_))
         refine W.seq (W.region (L.cutJ 11 (fun gs D => ∃ (gb25 : Bool), gs = [(1, .bool a1), (4, pt b1 0), (7, pt b2 0), (8, pt b3 0), (9, pt b4 0), (10, pt b5 0), (12, pt b18 0), (13, .int .i64 x19), (22, u0), (23, .int .i64 (a0.length : Int)), (24, .int .i64 gx9), (56, .bool gb25)] ∧ D = Cls w [] [.obj b18 [.int .i64 x17.Tx, .int .i64 x17.Kind, .int .i64 x17.Item] 61, .obj b5 ((gl10.map I).flatten) 216, .obj b4 ((gl11.map I).flatten) 216, .obj b3 ((gl12.map B).flatten) 211, .obj b2 [gv13, .slice none 0 0, .slice none 0 0] 82, .obj b1 [.slice none 0 0, .slice none 0 0, .slice none 0 0] 82, .sl gv13 61 3 (gl14.map TOp.row)] ∧ m42_stamp_Play_K7 gl11 x17 x19 gl14 gx9 go2 gl10 gl12 a1 gb25 = some r) ?_ ?_))
         ·
          refine L.y rfl (Y.fieldP fd61_1 rfl) ?_
          refine L.y rfl (Y.loadP (i := 0) ag3 rfl rfl rfl) ?_
          refine L.ite h rfl (Y.eql rfl rfl) (fun c53 h => ?_) (fun c53 h => ?_)
          ·
           refine L.y rfl (Y.move rfl) ?_
           refine L.take rfl (L.y rfl (Y.move rfl) ?_)
           refine L.take rfl (L.y rfl (Y.fieldP fd61_2 rfl) ?_)
           refine L.take rfl (L.y rfl (Y.loadP (i := 0) ag3 rfl rfl rfl) ?_)
           refine L.take rfl (L.m (V := fun _ => pt b5 (0 + x17.Item.toNat * 1)) h rfl (Y.indexAM (l := gl10) Try.underlying216 sz3 rfl rfl) (fun x54 ex54 h => ?_))
           refine L.take rfl (L.y rfl (Y.loadAr (q := 1) (row := I) (j := 0) (p := .int .i64 x54) ag3 rfl rfl rfl (fun _ => rfl) (idxA_idx ex54) rfl) ?_)
           refine L.take rfl (L.ite h rfl (Y.geq rfl rfl) (fun c55 h => ?_) (fun c55 h => ?_))
           ·
            refine L.y rfl (Y.pickT rfl rfl) ?_
            exact L.nil (E.joinJ ⟨true, rfl, rfl, h⟩ ⟨rfl, rfl, rfl, rfl, rfl, rfl, rfl, rfl, rfl, rfl, rfl, rfl, trivial⟩ (fun _ hw => hw))
           ·
            refine L.y rfl (Y.pickT rfl rfl) ?_
            exact L.nil (E.joinJ ⟨false, rfl, rfl, h⟩ ⟨rfl, rfl, rfl, rfl, rfl, rfl, rfl, rfl, rfl, rfl, rfl, rfl, trivial⟩ (fun _ hw => hw))
          ·
           refine L.y rfl (Y.move rfl) ?_
           refine L.pass rfl rfl (by nofun) ?_
           refine L.pass rfl rfl (by nofun) ?_
           refine L.pass rfl rfl (by nofun) ?_
           refine L.pass rfl rfl (by nofun) ?_
           refine L.pass rfl rfl (by nofun) ?_
           refine L.pass rfl rfl (by nofun) ?_
           refine L.y rfl (Y.pickF rfl rfl) ?_
           exact L.nil (E.joinJ ⟨false, rfl, rfl, h⟩ ⟨rfl, rfl, rfl, rfl, rfl, rfl, rfl, rfl, rfl, rfl, rfl, rfl, trivial⟩ (fun _ hw => hw))
         ·
          rintro _ _ ⟨gb25, rfl, rfl, h⟩
          rw [m42_stamp_Play_K7] at h
          rcases gb25 with _ | _
          ·
           replace h := iteF h
           refine L.y rfl (Y.assign rfl) ?_
           refine L.nil (E.thenN (W.condF rfl ?_))
           refine W.seq (W.region (L.cutJ 11 (fun gs D => ∃ (gb26 : Bool), gs = [(1, .bool a1), (4, pt b1 0), (7, pt b2 0), (8, pt b3 0), (9, pt b4 0), (10, pt b5 0), (12, pt b18 0), (13, .int .i64 x19), (22, u0), (23, .int .i64 (a0.length : Int)), (24, .int .i64 gx9), (77, .bool gb26)] ∧ D = Cls w [] [.obj b18 [.int .i64 x17.Tx, .int .i64 x17.Kind, .int .i64 x17.Item] 61, .obj b5 ((gl10.map I).flatten) 216, .obj b4 ((gl11.map I).flatten) 216, .obj b3 ((gl12.map B).flatten) 211, .obj b2 [gv13, .slice none 0 0, .slice none 0 0] 82, .obj b1 [.slice none 0 0, .slice none 0 0, .slice none 0 0] 82, .sl gv13 61 3 (gl14.map TOp.row)] ∧ m42_stamp_Play_K8 gl10 x17 x19 gl14 gx9 go2 gl11 gl12 a1 gb26 = some r) ?_ ?_))
           ·
            refine L.y rfl (Y.fieldP fd61_1 rfl) ?_
            refine L.y rfl (Y.loadP (i := 0) ag3 rfl rfl rfl) ?_
            refine L.ite h rfl (Y.eql rfl rfl) (fun c44 h => ?_) (fun c44 h => ?_)
            ·
             refine L.y rfl (Y.move rfl) ?_
             refine L.take rfl (L.y rfl (Y.move rfl) ?_)
             refine L.take rfl (L.y rfl (Y.fieldP fd61_2 rfl) ?_)
             refine L.take rfl (L.y rfl (Y.loadP (i := 0) ag3 rfl rfl rfl) ?_)
             refine L.take rfl (L.m (V := fun _ => pt b4 (0 + x17.Item.toNat * 1)) h rfl (Y.indexAM (l := gl11) Try.underlying216 sz3 rfl rfl) (fun x45 ex45 h => ?_))
             refine L.take rfl (L.y rfl (Y.loadAr (q := 2) (row := I) (j := 0) (p := .int .i64 x45) ag3 rfl rfl rfl (fun _ => rfl) (idxA_idx ex45) rfl) ?_)
             refine L.take rfl (L.ite h rfl (Y.geq rfl rfl) (fun c46 h => ?_) (fun c46 h => ?_))
             ·
              refine L.y rfl (Y.pickT rfl rfl) ?_
              exact L.nil (E.joinJ ⟨true, rfl, rfl, h⟩ ⟨rfl, rfl, rfl, rfl, rfl, rfl, rfl, rfl, rfl, rfl, rfl, rfl, trivial⟩ (fun _ hw => hw))
             ·
              refine L.y rfl (Y.pickT rfl rfl) ?_
              exact L.nil (E.joinJ ⟨false, rfl, rfl, h⟩ ⟨rfl, rfl, rfl, rfl, rfl, rfl, rfl, rfl, rfl, rfl, rfl, rfl, trivial⟩ (fun _ hw => hw))
            ·
             refine L.y rfl (Y.move rfl) ?_
             refine L.pass rfl rfl (by nofun) ?_
             refine L.pass rfl rfl (by nofun) ?_
             refine L.pass rfl rfl (by nofun) ?_
             refine L.pass rfl rfl (by nofun) ?_
             refine L.pass rfl rfl (by nofun) ?_
             refine L.pass rfl rfl (by nofun) ?_
             refine L.y rfl (Y.pickF rfl rfl) ?_
             exact L.nil (E.joinJ ⟨false, rfl, rfl, h⟩ ⟨rfl, rfl, rfl, rfl, rfl, rfl, rfl, rfl, rfl, rfl, rfl, rfl, trivial⟩ (fun _ hw => hw))
           ·
            rintro _ _ ⟨gb26, rfl, rfl, h⟩
            rw [m42_stamp_Play_K8] at h
            rcases gb26 with _ | _
            ·
             replace h := iteF h
             refine L.y rfl (Y.move rfl) ?_
             refine L.pass rfl rfl (by nofun) ?_
             refine L.pass rfl rfl (by nofun) ?_
             refine L.pass rfl rfl (by nofun) ?_
             refine L.pass rfl rfl (by nofun) ?_
             refine L.pass rfl rfl (by nofun) ?_
             refine L.pass rfl rfl (by nofun) ?_
             refine L.y rfl (Y.pickF rfl rfl) ?_
             refine L.y rfl (Y.assign rfl) ?_
             refine L.nil (E.thenN (W.condF rfl ?_))
             refine W.seq (W.region (L.cutJ 11 (fun gs D => ∃ (gb27 : Bool), gs = [(1, .bool a1), (4, pt b1 0), (7, pt b2 0), (8, pt b3 0), (9, pt b4 0), (10, pt b5 0), (12, pt b18 0), (22, u0), (23, .int .i64 (a0.length : Int)), (24, .int .i64 gx9), (101, .bool gb27)] ∧ D = Cls w [] [.obj b18 [.int .i64 x17.Tx, .int .i64 x17.Kind, .int .i64 x17.Item] 61, .obj b5 ((gl10.map I).flatten) 216, .obj b4 ((gl11.map I).flatten) 216, .obj b3 ((gl12.map B).flatten) 211, .obj b2 [gv13, .slice none 0 0, .slice none 0 0] 82, .obj b1 [.slice none 0 0, .slice none 0 0, .slice none 0 0] 82, .sl gv13 61 3 (gl14.map TOp.row)] ∧ m42_stamp_Play_K9 a1 gx9 go2 gl10 gl11 gl12 gl14 x17 gb27 = some r) ?_ ?_))
             ·
              refine L.y rfl (Y.fieldP fd61_1 rfl) ?_
              refine L.y rfl (Y.loadP (i := 0) ag3 rfl rfl rfl) ?_
              refine L.ite h rfl (Y.eql rfl rfl) (fun c29 h => ?_) (fun c29 h => ?_)
              ·
               refine L.y rfl (Y.move rfl) ?_
               refine L.take rfl (L.y rfl (Y.move rfl) ?_)
               refine L.take rfl (L.y rfl (Y.fieldP fd61_2 rfl) ?_)
               refine L.take rfl (L.y rfl (Y.loadP (i := 0) ag3 rfl rfl rfl) ?_)
               refine L.take rfl (L.m (V := fun _ => pt b4 (0 + x17.Item.toNat * 1)) h rfl (Y.indexAM (l := gl11) Try.underlying216 sz3 rfl rfl) (fun x30 ex30 h => ?_))
               refine L.take rfl (L.y rfl (Y.loadAr (q := 2) (row := I) (j := 0) (p := .int .i64 x30) ag3 rfl rfl rfl (fun _ => rfl) (idxA_idx ex30) rfl) ?_)
               refine L.take rfl (L.ite h rfl (Y.geq rfl rfl) (fun c31 h => ?_) (fun c31 h => ?_))
               ·
                refine L.y rfl (Y.pickT rfl rfl) ?_
                exact L.nil (E.joinJ ⟨true, rfl, rfl, h⟩ ⟨rfl, rfl, rfl, rfl, rfl, rfl, rfl, rfl, rfl, rfl, rfl, trivial⟩ (fun _ hw => hw))
               ·
                refine L.y rfl (Y.pickT rfl rfl) ?_
                exact L.nil (E.joinJ ⟨false, rfl, rfl, h⟩ ⟨rfl, rfl, rfl, rfl, rfl, rfl, rfl, rfl, rfl, rfl, rfl, trivial⟩ (fun _ hw => hw))
              ·
               refine L.y rfl (Y.move rfl) ?_
               refine L.pass rfl rfl (by nofun) ?_
               refine L.pass rfl rfl (by nofun) ?_
               refine L.pass rfl rfl (by nofun) ?_
               refine L.pass rfl rfl (by nofun) ?_
               refine L.pass rfl rfl (by nofun) ?_
               refine L.pass rfl rfl (by nofun) ?_
               refine L.y rfl (Y.pickF rfl rfl) ?_
               exact L.nil (E.joinJ ⟨false, rfl, rfl, h⟩ ⟨rfl, rfl, rfl, rfl, rfl, rfl, rfl, rfl, rfl, rfl, rfl, trivial⟩ (fun _ hw => hw))
             ·
              rintro _ _ ⟨gb27, rfl, rfl, h⟩
              rw [m42_stamp_Play_K9] at h
              rcases gb27 with _ | _
              ·
               replace h := iteF h
               refine L.y rfl (Y.move rfl) ?_
               refine L.pass rfl rfl (by nofun) ?_
               refine L.y rfl (Y.pickF rfl rfl) ?_
               refine L.y rfl (Y.assign rfl) ?_
               refine L.nil (E.thenN (W.condF rfl ?_))
               refine W.seq (W.region (L.y rfl (Y.fieldP fd61_0 rfl) ?_))
               refine L.y rfl (Y.loadP (i := 0) ag3 rfl rfl rfl) ?_
               refine L.m (V := fun _ => pt b3 (0 + x17.Tx.toNat * 1)) h rfl (Y.indexAM (l := gl12) Try.underlying211 sz4 rfl rfl) (fun x24 ex24 h => ?_)
               refine L.storeArM (q := 3) (row := B) (vs := [.bool true]) (j := 0) (u1 := true) h sz4 rfl rfl rfl rfl rfl (all1 rfl all0) rfl (fun _ => rfl) (idxA_idx ex24) rfl rfl ?_
               intro l25 el25 h
               refine L.nil (E.thenN (W.region (L.y rfl (Y.fieldP fd61_0 rfl) ?_)))
               refine L.y rfl (Y.loadP (i := 0) ag3 rfl rfl rfl) ?_
               refine L.y rfl (Y.build (cells := #[.int .i64 x17.Tx, .int .i64 4, .int .i64 0]) rfl (by kernel_rfl)) ?_
               refine L.store (i := 0) sz61 rfl rfl rfl rfl (by simp [Value.oneCell', Value.cells, st]) rfl (Nat.le_of_ble_eq_true rfl) ?_
               exact L.nil (E.blockN (E.joinJ ⟨4, 0, gl10, gl11, l25, rfl, rfl, h⟩ ⟨rfl, rfl, rfl, rfl, rfl, rfl, rfl, rfl, rfl, rfl, trivial⟩ (fun _ hw => hw)))
              ·
               replace h := iteT h
               refine L.y rfl (Y.move rfl) ?_
               refine L.take rfl (L.iteB h rfl (Y.move rfl) (fun c26 h => ?_) (fun c26 h => ?_))
               ·
                refine L.y rfl (Y.pickT rfl rfl) ?_
                refine L.y rfl (Y.assign rfl) ?_
                refine L.nil (E.thenN (W.condT rfl ?_))
                exact W.exit (E.blockY rfl (E.KSX (E.blockX (E.joinJ ⟨gl10, gl11, gl12, gv13, gl14, rfl, rfl, h⟩ ⟨rfl, rfl, rfl, rfl, rfl, rfl, rfl, rfl, rfl, trivial⟩ (fun _ hw => hw.sel [1, 2, 3, 4, 5, 6] (by decide) rfl)))))
               ·
                refine L.y rfl (Y.pickT rfl rfl) ?_
                refine L.y rfl (Y.assign rfl) ?_
                refine L.nil (E.thenN (W.condF rfl ?_))
                refine W.seq (W.region (L.y rfl (Y.fieldP fd61_0 rfl) ?_))
                refine L.y rfl (Y.loadP (i := 0) ag3 rfl rfl rfl) ?_
                refine L.m (V := fun _ => pt b3 (0 + x17.Tx.toNat * 1)) h rfl (Y.indexAM (l := gl12) Try.underlying211 sz4 rfl rfl) (fun x27 ex27 h => ?_)
                refine L.storeArM (q := 3) (row := B) (vs := [.bool true]) (j := 0) (u1 := true) h sz4 rfl rfl rfl rfl rfl (all1 rfl all0) rfl (fun _ => rfl) (idxA_idx ex27) rfl rfl ?_
                intro l28 el28 h
                refine L.nil (E.thenN (W.region (L.y rfl (Y.fieldP fd61_0 rfl) ?_)))
                refine L.y rfl (Y.loadP (i := 0) ag3 rfl rfl rfl) ?_
                refine L.y rfl (Y.build (cells := #[.int .i64 x17.Tx, .int .i64 4, .int .i64 0]) rfl (by kernel_rfl)) ?_
                refine L.store (i := 0) sz61 rfl rfl rfl rfl (by simp [Value.oneCell', Value.cells, st]) rfl (Nat.le_of_ble_eq_true rfl) ?_
                exact L.nil (E.blockN (E.joinJ ⟨4, 0, gl10, gl11, l28, rfl, rfl, h⟩ ⟨rfl, rfl, rfl, rfl, rfl, rfl, rfl, rfl, rfl, rfl, trivial⟩ (fun _ hw => hw)))
            ·
             replace h := iteT h
             refine L.y rfl (Y.move rfl) ?_
             refine L.take rfl (L.y rfl (Y.move rfl) ?_)
             refine L.take rfl (L.y rfl (Y.fieldP fd61_2 rfl) ?_)
             refine L.take rfl (L.y rfl (Y.loadP (i := 0) ag3 rfl rfl rfl) ?_)
             refine L.take rfl (L.m (V := fun _ => pt b5 (0 + x17.Item.toNat * 1)) h rfl (Y.indexAM (l := gl10) Try.underlying216 sz3 rfl rfl) (fun x32 ex32 h => ?_))
             refine L.take rfl (L.y rfl (Y.loadAr (q := 1) (row := I) (j := 0) (p := .int .i64 x32) ag3 rfl rfl rfl (fun _ => rfl) (idxA_idx ex32) rfl) ?_)
             refine L.take rfl (L.ite h rfl (Y.geq rfl rfl) (fun c33 h => ?_) (fun c33 h => ?_))
             ·
              refine L.y rfl (Y.pickT rfl rfl) ?_
              refine L.y rfl (Y.assign rfl) ?_
              refine L.nil (E.thenN (W.condT rfl ?_))
              refine W.region (L.y rfl (Y.fieldP fd61_2 rfl) ?_)
              refine L.y rfl (Y.loadP (i := 0) ag3 rfl rfl rfl) ?_
              refine L.y rfl (Y.move rfl) ?_
              refine L.m (V := fun _ => pt b5 (0 + x17.Item.toNat * 1)) h rfl (Y.indexAM (l := gl10) Try.underlying216 sz3 rfl rfl) (fun x34 ex34 h => ?_)
              refine L.storeArM (q := 1) (row := I) (vs := [.int .i64 x19]) (j := 0) (u1 := x19) h sz3 rfl rfl rfl rfl rfl (all1 rfl all0) rfl (fun _ => rfl) (idxA_idx ex34) rfl rfl ?_
              intro l35 el35 h
              exact L.nil (E.blockN (E.joinJ ⟨x17.Kind, x17.Item, l35, gl11, gl12, rfl, rfl, h⟩ ⟨rfl, rfl, rfl, rfl, rfl, rfl, rfl, rfl, rfl, rfl, trivial⟩ (fun _ hw => hw)))
             ·
              refine L.y rfl (Y.pickT rfl rfl) ?_
              refine L.y rfl (Y.assign rfl) ?_
              refine L.nil (E.thenN (W.condF rfl ?_))
              refine W.seq (W.region (L.cutJ 11 (fun gs D => ∃ (gb28 : Bool), gs = [(1, .bool a1), (4, pt b1 0), (7, pt b2 0), (8, pt b3 0), (9, pt b4 0), (10, pt b5 0), (12, pt b18 0), (22, u0), (23, .int .i64 (a0.length : Int)), (24, .int .i64 gx9), (101, .bool gb28)] ∧ D = Cls w [] [.obj b18 [.int .i64 x17.Tx, .int .i64 x17.Kind, .int .i64 x17.Item] 61, .obj b5 ((gl10.map I).flatten) 216, .obj b4 ((gl11.map I).flatten) 216, .obj b3 ((gl12.map B).flatten) 211, .obj b2 [gv13, .slice none 0 0, .slice none 0 0] 82, .obj b1 [.slice none 0 0, .slice none 0 0, .slice none 0 0] 82, .sl gv13 61 3 (gl14.map TOp.row)] ∧ m42_stamp_Play_K10 a1 gx9 go2 gl10 gl11 gl12 gl14 x17 gb28 = some r) ?_ ?_))
              ·
               refine L.y rfl (Y.fieldP fd61_1 rfl) ?_
               refine L.y rfl (Y.loadP (i := 0) ag3 rfl rfl rfl) ?_
               refine L.ite h rfl (Y.eql rfl rfl) (fun c41 h => ?_) (fun c41 h => ?_)
               ·
                refine L.y rfl (Y.move rfl) ?_
                refine L.take rfl (L.y rfl (Y.move rfl) ?_)
                refine L.take rfl (L.y rfl (Y.fieldP fd61_2 rfl) ?_)
                refine L.take rfl (L.y rfl (Y.loadP (i := 0) ag3 rfl rfl rfl) ?_)
                refine L.take rfl (L.m (V := fun _ => pt b4 (0 + x17.Item.toNat * 1)) h rfl (Y.indexAM (l := gl11) Try.underlying216 sz3 rfl rfl) (fun x42 ex42 h => ?_))
                refine L.take rfl (L.y rfl (Y.loadAr (q := 2) (row := I) (j := 0) (p := .int .i64 x42) ag3 rfl rfl rfl (fun _ => rfl) (idxA_idx ex42) rfl) ?_)
                refine L.take rfl (L.ite h rfl (Y.geq rfl rfl) (fun c43 h => ?_) (fun c43 h => ?_))
                ·
                 refine L.y rfl (Y.pickT rfl rfl) ?_
                 exact L.nil (E.joinJ ⟨true, rfl, rfl, h⟩ ⟨rfl, rfl, rfl, rfl, rfl, rfl, rfl, rfl, rfl, rfl, rfl, trivial⟩ (fun _ hw => hw))
                ·
                 refine L.y rfl (Y.pickT rfl rfl) ?_
                 exact L.nil (E.joinJ ⟨false, rfl, rfl, h⟩ ⟨rfl, rfl, rfl, rfl, rfl, rfl, rfl, rfl, rfl, rfl, rfl, trivial⟩ (fun _ hw => hw))
               ·
                refine L.y rfl (Y.move rfl) ?_
                refine L.pass rfl rfl (by nofun) ?_
                refine L.pass rfl rfl (by nofun) ?_
                refine L.pass rfl rfl (by nofun) ?_
                refine L.pass rfl rfl (by nofun) ?_
                refine L.pass rfl rfl (by nofun) ?_
                refine L.pass rfl rfl (by nofun) ?_
                refine L.y rfl (Y.pickF rfl rfl) ?_
                exact L.nil (E.joinJ ⟨false, rfl, rfl, h⟩ ⟨rfl, rfl, rfl, rfl, rfl, rfl, rfl, rfl, rfl, rfl, rfl, trivial⟩ (fun _ hw => hw))
              ·
               rintro _ _ ⟨gb28, rfl, rfl, h⟩
               rw [m42_stamp_Play_K10] at h
               rcases gb28 with _ | _
               ·
                replace h := iteF h
                refine L.y rfl (Y.move rfl) ?_
                refine L.pass rfl rfl (by nofun) ?_
                refine L.y rfl (Y.pickF rfl rfl) ?_
                refine L.y rfl (Y.assign rfl) ?_
                refine L.nil (E.thenN (W.condF rfl ?_))
                refine W.seq (W.region (L.y rfl (Y.fieldP fd61_0 rfl) ?_))
                refine L.y rfl (Y.loadP (i := 0) ag3 rfl rfl rfl) ?_
                refine L.m (V := fun _ => pt b3 (0 + x17.Tx.toNat * 1)) h rfl (Y.indexAM (l := gl12) Try.underlying211 sz4 rfl rfl) (fun x36 ex36 h => ?_)
                refine L.storeArM (q := 3) (row := B) (vs := [.bool true]) (j := 0) (u1 := true) h sz4 rfl rfl rfl rfl rfl (all1 rfl all0) rfl (fun _ => rfl) (idxA_idx ex36) rfl rfl ?_
                intro l37 el37 h
                refine L.nil (E.thenN (W.region (L.y rfl (Y.fieldP fd61_0 rfl) ?_)))
                refine L.y rfl (Y.loadP (i := 0) ag3 rfl rfl rfl) ?_
                refine L.y rfl (Y.build (cells := #[.int .i64 x17.Tx, .int .i64 4, .int .i64 0]) rfl (by kernel_rfl)) ?_
                refine L.store (i := 0) sz61 rfl rfl rfl rfl (by simp [Value.oneCell', Value.cells, st]) rfl (Nat.le_of_ble_eq_true rfl) ?_
                exact L.nil (E.blockN (E.joinJ ⟨4, 0, gl10, gl11, l37, rfl, rfl, h⟩ ⟨rfl, rfl, rfl, rfl, rfl, rfl, rfl, rfl, rfl, rfl, trivial⟩ (fun _ hw => hw)))
               ·
                replace h := iteT h
                refine L.y rfl (Y.move rfl) ?_
                refine L.take rfl (L.iteB h rfl (Y.move rfl) (fun c38 h => ?_) (fun c38 h => ?_))
                ·
                 refine L.y rfl (Y.pickT rfl rfl) ?_
                 refine L.y rfl (Y.assign rfl) ?_
                 refine L.nil (E.thenN (W.condT rfl ?_))
                 exact W.exit (E.blockY rfl (E.KSX (E.blockX (E.joinJ ⟨gl10, gl11, gl12, gv13, gl14, rfl, rfl, h⟩ ⟨rfl, rfl, rfl, rfl, rfl, rfl, rfl, rfl, rfl, trivial⟩ (fun _ hw => hw.sel [1, 2, 3, 4, 5, 6] (by decide) rfl)))))
                ·
                 refine L.y rfl (Y.pickT rfl rfl) ?_
                 refine L.y rfl (Y.assign rfl) ?_
                 refine L.nil (E.thenN (W.condF rfl ?_))
                 refine W.seq (W.region (L.y rfl (Y.fieldP fd61_0 rfl) ?_))
                 refine L.y rfl (Y.loadP (i := 0) ag3 rfl rfl rfl) ?_
                 refine L.m (V := fun _ => pt b3 (0 + x17.Tx.toNat * 1)) h rfl (Y.indexAM (l := gl12) Try.underlying211 sz4 rfl rfl) (fun x39 ex39 h => ?_)
                 refine L.storeArM (q := 3) (row := B) (vs := [.bool true]) (j := 0) (u1 := true) h sz4 rfl rfl rfl rfl rfl (all1 rfl all0) rfl (fun _ => rfl) (idxA_idx ex39) rfl rfl ?_
                 intro l40 el40 h
                 refine L.nil (E.thenN (W.region (L.y rfl (Y.fieldP fd61_0 rfl) ?_)))
                 refine L.y rfl (Y.loadP (i := 0) ag3 rfl rfl rfl) ?_
                 refine L.y rfl (Y.build (cells := #[.int .i64 x17.Tx, .int .i64 4, .int .i64 0]) rfl (by kernel_rfl)) ?_
                 refine L.store (i := 0) sz61 rfl rfl rfl rfl (by simp [Value.oneCell', Value.cells, st]) rfl (Nat.le_of_ble_eq_true rfl) ?_
                 exact L.nil (E.blockN (E.joinJ ⟨4, 0, gl10, gl11, l40, rfl, rfl, h⟩ ⟨rfl, rfl, rfl, rfl, rfl, rfl, rfl, rfl, rfl, rfl, trivial⟩ (fun _ hw => hw)))
          ·
           replace h := iteT h
           refine L.y rfl (Y.assign rfl) ?_
           refine L.nil (E.thenN (W.condT rfl ?_))
           refine W.drawn2 (k := 10) (stC [[9]] [Cls w [] [.obj b18 [.int .i64 x17.Tx, .int .i64 x17.Kind, .int .i64 x17.Item] 61, .obj b5 ((gl10.map I).flatten) 216, .obj b4 ((gl11.map I).flatten) 216, .obj b3 ((gl12.map B).flatten) 211, .obj b2 [gv13, .slice none 0 0, .slice none 0 0] 82, .obj b1 [.slice none 0 0, .slice none 0 0, .slice none 0 0] 82, .sl gv13 61 3 (gl14.map TOp.row)]] (Cls w [] [.obj b18 [.int .i64 x17.Tx, .int .i64 x17.Kind, .int .i64 x17.Item] 61, .obj b5 ((gl10.map I).flatten) 216, .obj b3 ((gl12.map B).flatten) 211, .obj b2 [gv13, .slice none 0 0, .slice none 0 0] 82, .obj b1 [.slice none 0 0, .slice none 0 0, .slice none 0 0] 82, .sl gv13 61 3 (gl14.map TOp.row)])) rfl mixed (fun _ hw => hw.drew) (Sc.now (by kernel_rfl) (fun _ hw => hw)) ?_
           refine V2.y (i := 0) (Nx2.of (Z := Cls w [] [.obj b18 [.int .i64 x17.Tx, .int .i64 x17.Kind, .int .i64 x17.Item] 61, .obj b5 ((gl10.map I).flatten) 216, .obj b3 ((gl12.map B).flatten) 211, .obj b2 [gv13, .slice none 0 0, .slice none 0 0] 82, .obj b1 [.slice none 0 0, .slice none 0 0, .slice none 0 0] 82, .sl gv13 61 3 (gl14.map TOp.row)]) [] (by kernel_rfl) rfl (Zc.on (fun _ hw => hw.sel [0, 1, 3, 4, 5, 6] (by decide) rfl) (Zc.fin (fun _ hw => hw)))) rfl rfl rfl (Y.fieldP fd61_2 rfl) ?_
           refine V2.y (i := 1) (Nx2.of (Z := Cls w [] [.obj b18 [.int .i64 x17.Tx, .int .i64 x17.Kind, .int .i64 x17.Item] 61, .obj b5 ((gl10.map I).flatten) 216, .obj b3 ((gl12.map B).flatten) 211, .obj b2 [gv13, .slice none 0 0, .slice none 0 0] 82, .obj b1 [.slice none 0 0, .slice none 0 0, .slice none 0 0] 82, .sl gv13 61 3 (gl14.map TOp.row)]) [] (by kernel_rfl) rfl (Zc.on (fun _ hw => hw.sel [0, 1, 3, 4, 5, 6] (by decide) rfl) (Zc.fin (fun _ hw => hw)))) rfl rfl rfl (Y.loadP (i := 0) ag3 rfl rfl rfl) ?_
           refine V2.y (i := 2) (Nx2.of (Z := Cls w [] [.obj b18 [.int .i64 x17.Tx, .int .i64 x17.Kind, .int .i64 x17.Item] 61, .obj b5 ((gl10.map I).flatten) 216, .obj b3 ((gl12.map B).flatten) 211, .obj b2 [gv13, .slice none 0 0, .slice none 0 0] 82, .obj b1 [.slice none 0 0, .slice none 0 0, .slice none 0 0] 82, .sl gv13 61 3 (gl14.map TOp.row)]) [] (by kernel_rfl) rfl (Zc.on (fun _ hw => hw.sel [0, 1, 3, 4, 5, 6] (by decide) rfl) (Zc.fin (fun _ hw => hw)))) rfl rfl rfl (Y.fieldP fd61_2 rfl) ?_
           refine V2.y (i := 3) (Nx2.of (Z := Cls w [] [.obj b18 [.int .i64 x17.Tx, .int .i64 x17.Kind, .int .i64 x17.Item] 61, .obj b5 ((gl10.map I).flatten) 216, .obj b3 ((gl12.map B).flatten) 211, .obj b2 [gv13, .slice none 0 0, .slice none 0 0] 82, .obj b1 [.slice none 0 0, .slice none 0 0, .slice none 0 0] 82, .sl gv13 61 3 (gl14.map TOp.row)]) [] (by kernel_rfl) rfl (Zc.on (fun _ hw => hw.sel [0, 1, 3, 4, 5, 6] (by decide) rfl) (Zc.fin (fun _ hw => hw)))) rfl rfl rfl (Y.loadP (i := 0) ag3 rfl rfl rfl) ?_
           refine V2.m (i := 4) (V' := fun _ => pt b4 (0 + x17.Item.toNat * 1)) h (Nx2.of (Z := Cls w [] [.obj b18 [.int .i64 x17.Tx, .int .i64 x17.Kind, .int .i64 x17.Item] 61, .obj b5 ((gl10.map I).flatten) 216, .obj b4 ((gl11.map I).flatten) 216, .obj b3 ((gl12.map B).flatten) 211, .obj b2 [gv13, .slice none 0 0, .slice none 0 0] 82, .obj b1 [.slice none 0 0, .slice none 0 0, .slice none 0 0] 82, .sl gv13 61 3 (gl14.map TOp.row)]) [9] (by kernel_rfl) rfl (Zc.at1 (fun _ hw => hw))) rfl rfl rfl (Y.indexAM (l := gl11) Try.underlying216 sz3 rfl rfl) (fun x50 ex50 h => ?_)
           refine V2.y (i := 5) (Nx2.of (Z := Cls w [] [.obj b18 [.int .i64 x17.Tx, .int .i64 x17.Kind, .int .i64 x17.Item] 61, .obj b5 ((gl10.map I).flatten) 216, .obj b4 ((gl11.map I).flatten) 216, .obj b3 ((gl12.map B).flatten) 211, .obj b2 [gv13, .slice none 0 0, .slice none 0 0] 82, .obj b1 [.slice none 0 0, .slice none 0 0, .slice none 0 0] 82, .sl gv13 61 3 (gl14.map TOp.row)]) [9] (by kernel_rfl) rfl (Zc.at1 (fun _ hw => hw))) rfl rfl rfl (Y.loadAr (q := 2) (row := I) (j := 0) (p := .int .i64 x50) ag3 rfl rfl rfl (fun _ => rfl) (idxA_idx ex50) rfl) ?_
           refine V2.y (i := 6) (Nx2.of (Z := Cls w [] [.obj b18 [.int .i64 x17.Tx, .int .i64 x17.Kind, .int .i64 x17.Item] 61, .obj b5 ((gl10.map I).flatten) 216, .obj b3 ((gl12.map B).flatten) 211, .obj b2 [gv13, .slice none 0 0, .slice none 0 0] 82, .obj b1 [.slice none 0 0, .slice none 0 0, .slice none 0 0] 82, .sl gv13 61 3 (gl14.map TOp.row)]) [] (by kernel_rfl) rfl (Zc.on (fun _ hw => hw.sel [0, 1, 3, 4, 5, 6] (by decide) rfl) (Zc.fin (fun _ hw => hw)))) rfl rfl rfl (Y.move rfl) ?_
           refine V2.y (i := 7) (Nx2.of (Z := Cls w [] [.obj b18 [.int .i64 x17.Tx, .int .i64 x17.Kind, .int .i64 x17.Item] 61, .obj b5 ((gl10.map I).flatten) 216, .obj b3 ((gl12.map B).flatten) 211, .obj b2 [gv13, .slice none 0 0, .slice none 0 0] 82, .obj b1 [.slice none 0 0, .slice none 0 0, .slice none 0 0] 82, .sl gv13 61 3 (gl14.map TOp.row)]) [] (by kernel_rfl) rfl (Zc.on (fun _ hw => hw.sel [0, 1, 3, 4, 5, 6] (by decide) rfl) (Zc.fin (fun _ hw => hw)))) rfl rfl rfl (Y.max2 rfl rfl) ?_
           refine V2.m (i := 8) (V' := fun _ => pt b4 (0 + x17.Item.toNat * 1)) h (Nx2.of (Z := Cls w [] [.obj b18 [.int .i64 x17.Tx, .int .i64 x17.Kind, .int .i64 x17.Item] 61, .obj b5 ((gl10.map I).flatten) 216, .obj b4 ((gl11.map I).flatten) 216, .obj b3 ((gl12.map B).flatten) 211, .obj b2 [gv13, .slice none 0 0, .slice none 0 0] 82, .obj b1 [.slice none 0 0, .slice none 0 0, .slice none 0 0] 82, .sl gv13 61 3 (gl14.map TOp.row)]) [9] (by kernel_rfl) rfl (Zc.at1 (fun _ hw => hw))) rfl rfl rfl (Y.indexAM (l := gl11) Try.underlying216 sz3 rfl rfl) (fun x51 ex51 h => ?_)
           refine V2.eff (i := 9) (by kernel_rfl) rfl ?_
           refine L.storeArM (q := 2) (row := I) (vs := [.int .i64 (max x50 x19)]) (j := 0) (u1 := (max x50 x19)) h sz3 rfl rfl rfl rfl rfl (all1 rfl all0) rfl (fun _ => rfl) (idxA_idx ex51) rfl rfl ?_
           intro l52 el52 h
           refine L.nil (E.toV2 (stC [] [] (Cls w [] [.obj b18 [.int .i64 x17.Tx, .int .i64 x17.Kind, .int .i64 x17.Item] 61, .obj b5 ((gl10.map I).flatten) 216, .obj b3 ((gl12.map B).flatten) 211, .obj b2 [gv13, .slice none 0 0, .slice none 0 0] 82, .obj b1 [.slice none 0 0, .slice none 0 0, .slice none 0 0] 82, .sl gv13 61 3 (gl14.map TOp.row)])) 9 (by kernel_rfl) (Sc.past rfl (Sc.stayD (fun _ hw => hw))) (Sc.atD (fun _ hw => hw.sel [0, 1, 3, 4, 5, 6] (by decide) rfl)) ?_)
           refine V2.done (by kernel_rfl) ?_
           exact E.blockN (E.joinJ ⟨x17.Kind, x17.Item, gl10, l52, gl12, rfl, rfl, h⟩ ⟨rfl, rfl, rfl, rfl, rfl, rfl, rfl, rfl, rfl, rfl, trivial⟩ (fun _ hw => hw))
       ·
        rintro _ _ ⟨gx20, gx21, gl22, gl23, gl24, rfl, rfl, h⟩
        rw [m42_stamp_Play_K6] at h
        refine W.region (L.y rfl (Y.fieldP fd82_0 rfl) ?_)
        refine L.y rfl (Y.loadP (i := 4) ag57 rfl rfl rfl) ?_
        refine L.y rfl (Y.loadPW (i := 0) ag61 sz61 rfl rfl rfl) ?_
        refine L.litAgg rfl Try.underlying57 el61 rfl rfl rfl ?_
        intro b20
        refine L.appM (i := 7) (g := TOp.row) (l := gl14) (more := [(⟨x17.Tx, gx20, gx21⟩ : TOp)]) h rfl Try.underlying57 el61 rfl rfl rfl (fun w hw => As.at_ (hw.get (i := 0) rfl)) (plain_TOp _) rfl ?_
        intro v21 l22 el22 h
        refine L.y rfl (Y.fieldP fd82_0 rfl) ?_
        refine L.storeV (i := 6) sz57 rfl rfl (fun _ hw => (As.at_ (hw.get (i := 0) rfl)).one) rfl (Nat.le_of_ble_eq_true rfl) ?_
        exact L.nil (E.blockN (E.joinJ ⟨gl22, gl23, gl24, v21, l22, rfl, rfl, h⟩ ⟨rfl, rfl, rfl, rfl, rfl, rfl, rfl, rfl, rfl, trivial⟩ (fun _ hw => hw.sel [3, 4, 5, 6, 7, 0] (by decide) rfl)))
     ·
      rintro _ _ ⟨gl15, gl16, gl17, gv18, gl19, rfl, rfl, h⟩
      rw [m42_stamp_Play_K4] at h
      refine W.region (L.m (V := fun x16 => .int .i64 x16) h rfl (Y.addM rfl rfl) (fun x16 ex16 h => ?_))
      refine L.y rfl (Y.move rfl) ?_
      exact L.nil (E.againJ ⟨x16, gl15, gl16, gl17, gv18, gl19, rfl, rfl, by rw [hg2]; exact h⟩ (Nat.lt_succ_self _) ⟨rfl, rfl, rfl, rfl, rfl, rfl, rfl, rfl, rfl, trivial⟩ (fun _ hw => hw))
    ·
     refine L.nil (E.thenN (W.seq (W.condF rfl ?_)))
     exact W.exit (E.thenX (E.KLX (E.blockX (E.joinJ ⟨gl12, gv13, gl14, rfl, rfl, h⟩ ⟨rfl, rfl, rfl, trivial⟩ (fun _ hw => hw.sel [2, 3, 4, 5] (by decide) rfl)))))
   ·
    rintro _ _ ⟨gl1, gv2, gl3, rfl, rfl, h⟩
    rw [m42_stamp_Play_K2] at h
    refine W.seqJ (fun gs D => ∃ (gv4 : Value) (gl5 : (List Int)), gs = [(4, pt b1 0), (7, pt b2 0)] ∧ D = Cls w [] [.obj b2 [gv2, gv4, .slice none 0 0] 82, .obj b1 [.slice none 0 0, .slice none 0 0, .slice none 0 0] 82, .sl gv2 61 3 (gl3.map TOp.row), .sl gv4 3 1 (gl5.map I)] ∧ m42_stamp_Play_K3 gl3 gl5 = some r) ?_ ?_
    ·
     refine W.seq (W.region ?_)
     obtain ⟨_, en6, h⟩ := bind1S h
     obtain ⟨_, en6⟩ := arrN_some en6
     refine L.y rfl (Y.loadArAll (q := 0) (row := B) ag211 sz211 rfl rfl (fun _ => rfl) (by rw [en6])) ?_
     refine L.y rfl (Y.move rfl) ?_
     refine L.nil (E.thenN (W.block (W.nilSl 3 1 ?_)))
     refine W.loopJ (fun m gs D => ∃ (gx6 : Int) (gv7 : Value) (gl8 : (List Int)), gs = [(4, pt b1 0), (7, pt b2 0), (112, .agg (gl1.map B).flatten.toArray), (113, .int .i64 gx6)] ∧ D = Cls w [] [.obj b2 [gv2, gv7, .slice none 0 0] 82, .obj b1 [.slice none 0 0, .slice none 0 0, .slice none 0 0] 82, .sl gv2 61 3 (gl3.map TOp.row), .sl gv7 3 1 (gl8.map I)] ∧ m42_stamp_Play_L1 gl1 gl3 m gx6 gl8 = some r) ⟨0, .slice none 0 0, [], rfl, rfl, h⟩ ⟨rfl, rfl, rfl, rfl, trivial⟩ (fun _ hw => hw.sel [2, 3, 4, 0] (by decide) rfl) ?_
     rintro m _ _ ⟨gx6, gv7, gl8, rfl, rfl, h⟩
     rcases m with _ | m
     · rw [m42_stamp_Play_L1] at h; cases h
     rw [m42_stamp_Play_L1] at h
     generalize hg1 : m42_stamp_Play_L1 gl1 gl3 m = go1 at h
     rw [m42_stamp_Play_L1B] at h
     refine W.seq (W.region (L.ite h rfl (Y.lss rfl rfl) (fun c7 h => ?_) (fun c7 h => ?_)))
     ·
      refine L.nil (E.thenN (W.seq (W.condT rfl ?_)))
      refine W.skip (E.thenN (W.seq (W.block (W.seq (W.region (L.y rfl (Y.move rfl) ?_))))))
      obtain ⟨x8, ex8, h⟩ := bind1S h
      refine L.iteB h rfl (Y.idxArr1 (l := gl1) (row := B) (p := .bool x8) Try.underlying211 ag4 sz4 rfl rfl (fun _ => rfl) ex8 rfl) (fun c9 h => ?_) (fun c9 h => ?_)
      ·
       refine L.y rfl (Y.assign rfl) ?_
       refine L.y rfl (Y.assign rfl) ?_
       refine L.nil (E.thenN (W.seq (W.region (L.y rfl (Y.move rfl) ?_))))
       refine L.nil (E.thenN (W.condT rfl ?_))
       refine W.region (L.y rfl (Y.fieldP fd82_1 rfl) ?_)
       refine L.y rfl (Y.loadP (i := 0) ag36 rfl rfl rfl) ?_
       refine L.y rfl (Y.move rfl) ?_
       refine L.litOne rfl Try.underlying36 el3 rfl rfl ?_
       intro b10
       refine L.appM (i := 4) (g := I) (l := gl8) (more := [gx6]) h rfl Try.underlying36 el3 rfl rfl rfl (fun w hw => As.at_ (hw.get (i := 0) rfl)) (plain_ints _) rfl ?_
       intro v11 l12 el12 h
       refine L.y rfl (Y.fieldP fd82_1 rfl) ?_
       refine L.storeV (i := 2) sz36 rfl rfl (fun _ hw => (As.at_ (hw.get (i := 0) rfl)).one) rfl (Nat.le_of_ble_eq_true rfl) ?_
       refine L.nil (E.blockN (E.thenN (W.region (L.m (V := fun x13 => .int .i64 x13) h rfl (Y.addM rfl rfl) (fun x13 ex13 h => ?_)))))
       refine L.y rfl (Y.move rfl) ?_
       exact L.nil (E.againJ ⟨x13, v11, l12, rfl, rfl, by rw [hg1]; exact h⟩ (Nat.lt_succ_self _) ⟨rfl, rfl, rfl, rfl, trivial⟩ (fun _ hw => hw.sel [2, 3, 4, 0] (by decide) rfl))
      ·
       refine L.y rfl (Y.assign rfl) ?_
       refine L.y rfl (Y.assign rfl) ?_
       refine L.nil (E.thenN (W.seq (W.region (L.y rfl (Y.move rfl) ?_))))
       refine L.nil (E.thenN (W.condF rfl ?_))
       refine W.skip (E.blockN (E.thenN (W.region (L.m (V := fun x14 => .int .i64 x14) h rfl (Y.addM rfl rfl) (fun x14 ex14 h => ?_)))))
       refine L.y rfl (Y.move rfl) ?_
       exact L.nil (E.againJ ⟨x14, gv7, gl8, rfl, rfl, by rw [hg1]; exact h⟩ (Nat.lt_succ_self _) ⟨rfl, rfl, rfl, rfl, trivial⟩ (fun _ hw => hw))
     ·
      refine L.nil (E.thenN (W.seq (W.condF rfl ?_)))
      exact W.exit (E.thenX (E.KLX (E.blockX (E.joinJ ⟨gv7, gl8, rfl, rfl, h⟩ ⟨rfl, rfl, trivial⟩ (fun _ hw => hw)))))
    ·
     rintro _ _ ⟨gv4, gl5, rfl, rfl, h⟩
     rw [m42_stamp_Play_K3] at h
     refine W.seq (W.region (L.y rfl (Y.loadPW (i := 0) ag82 sz82 rfl rfl rfl) ?_))
     refine L.storeC (i := 1) sz82 rfl rfl rfl rfl (fun w hw => (all1 (As.at_ (hw.get (i := 2) rfl)).one (all1 (As.at_ (hw.get (i := 3) rfl)).one (all1 rfl all0)))) rfl (Nat.le_of_ble_eq_true rfl) ?_
     refine L.y rfl (Y.assign rfl) ?_
     refine L.nil (E.thenN (W.ret (E.retR2 rfl (Rv.cellW (i := 1) ag82 sz82 rfl rfl rfl) (Rv.tmp rfl) (fun w1 hw => ?_))))
     obtain rfl := Option.some.inj h
     exact ⟨_, _, rfl, ⟨_, _, _, rfl, rfl⟩, (hw.nilSl 3 1).sel [3, 4, 0] (by decide) rfl⟩
set_option maxRecDepth 100000 in
set_option maxHeartbeats 8000000 in
theorem w43_quirref_RunErr (a0 : (List TOp)) (u0 : Value) (w : World) (r : Int) (h : m43_quirref_RunErr a0 = some r) (hA0 : At w u0 3 (a0.map TOp.row)) : Does Try.prog 43 [u0] w fun u m => u = .int .i64 r ∧ m = [] := by
  rw [m43_quirref_RunErr] at h
  refine body (n := 73) Try.func43 rfl rfl rfl (Cls.refl w) ?_
  refine W.seq (W.region (L.y rfl (Y.assign rfl) ?_))
  refine L.nil (E.thenN (W.seqJ (fun gs D => gs = [(0, u0)] ∧ D = Cls w [] [] ∧ m43_quirref_RunErr_K1 a0 = some r) ?_ ?_))
  ·
   refine W.seq (W.region (L.y rfl (Y.move rfl) ?_))
   refine L.y rfl (Y.lenM (g := TOp.row) (l := a0) Try.underlying57 rfl (fun w' hw => hA0.cls0 hw)) ?_
   refine L.ite h rfl (Y.gtr rfl rfl) (fun c21 h => ?_) (fun c21 h => ?_)
   ·
    refine L.nil (E.thenN (W.condT rfl ?_))
    refine W.seq (W.region (L.y rfl (Y.assign rfl) ?_))
    refine L.nil (E.thenN (W.ret (E.KSR (E.ret1 rfl rfl (fun w1 hw => ?_)))))
    obtain rfl := Option.some.inj h
    exact ⟨_, _, rfl, ⟨rfl, rfl⟩, hw⟩
   ·
    refine L.nil (E.thenN (W.condF rfl ?_))
    exact W.skip (E.joinJ ⟨rfl, rfl, h⟩ ⟨rfl, trivial⟩ (fun _ hw => hw))
  ·
   rintro _ _ ⟨rfl, rfl, h⟩
   rw [m43_quirref_RunErr_K1] at h
   refine W.seqJ (fun gs D => gs = [] ∧ D = Cls w [] [] ∧ m43_quirref_RunErr_K2 = some r) ?_ ?_
   ·
    refine W.seq (W.region (L.y rfl (Y.move rfl) ?_))
    refine L.y rfl (Y.lenM (g := TOp.row) (l := a0) Try.underlying57 rfl (fun w' hw => hA0.cls0 hw)) ?_
    refine L.y rfl (Y.move rfl) ?_
    refine L.nil (E.thenN (W.block (W.loopJ (fun m gs D => ∃ (gx1 : Int), gs = [(0, u0), (10, u0), (11, .int .i64 (a0.length : Int)), (12, .int .i64 gx1)] ∧ D = Cls w [] [] ∧ m43_quirref_RunErr_L1 a0 m gx1 = some r) ⟨0, rfl, rfl, h⟩ ⟨rfl, rfl, rfl, rfl, trivial⟩ (fun _ hw => hw) ?_)))
    rintro m _ _ ⟨gx1, rfl, rfl, h⟩
    rcases m with _ | m
    · rw [m43_quirref_RunErr_L1] at h; cases h
    rw [m43_quirref_RunErr_L1] at h
    generalize hg1 : m43_quirref_RunErr_L1 a0 m = go1 at h
    rw [m43_quirref_RunErr_L1B] at h
    refine W.seq (W.region (L.ite h rfl (Y.lss rfl rfl) (fun c1 h => ?_) (fun c1 h => ?_)))
    ·
     refine L.nil (E.thenN (W.seq (W.condT rfl ?_)))
     refine W.skip (E.thenN (W.seqJ (fun gs D => gs = [(0, u0), (10, u0), (11, .int .i64 (a0.length : Int)), (12, .int .i64 gx1)] ∧ D = Cls w [] [] ∧ m43_quirref_RunErr_K3 gx1 go1 = some r) ?_ ?_))
     ·
      refine W.block (W.seq (W.region (L.y rfl (Y.move rfl) ?_)))
      refine L.m (V := fun _ => el u0 (gx1.toNat * 3)) h rfl (Y.indexM (g := TOp.row) (l := a0) Try.underlying57 sz61 rfl rfl (fun w' hw => hA0.cls0 hw)) (fun x3 ex3 h => ?_)
      refine L.y rfl (Y.loadEN (r := [.int .i64 x3.Tx, .int .i64 x3.Kind, .int .i64 x3.Item]) ag61 sz61 rfl (fun w' hw => hA0.cls0 hw) (idx_map ex3) rfl) ?_
      refine L.alloc rfl ze61 ?_
      intro b4
      refine L.y rfl (Y.assign rfl) ?_
      refine L.store (i := 0) sz61 rfl rfl rfl rfl (by simp [Value.oneCell', Value.cells, st]) rfl (Nat.le_of_ble_eq_true rfl) ?_
      refine L.nil (E.thenN (W.seqJ (fun gs D => gs = [(0, u0), (3, .int .i64 gx1), (4, pt b4 0), (10, u0), (11, .int .i64 (a0.length : Int)), (12, .int .i64 gx1)] ∧ D = Cls w [] [.obj b4 [.int .i64 x3.Tx, .int .i64 x3.Kind, .int .i64 x3.Item] 61] ∧ m43_quirref_RunErr_K4 x3 a0 gx1 go1 = some r) ?_ ?_))
      ·
       refine W.seq (W.region (L.cutJ 8 (fun gs D => ∃ (gb5 : Bool), gs = [(0, u0), (3, .int .i64 gx1), (4, pt b4 0), (10, u0), (11, .int .i64 (a0.length : Int)), (12, .int .i64 gx1), (24, .bool gb5)] ∧ D = Cls w [] [.obj b4 [.int .i64 x3.Tx, .int .i64 x3.Kind, .int .i64 x3.Item] 61] ∧ m43_quirref_RunErr_K8 x3 a0 gx1 go1 gb5 = some r) ?_ ?_))
       ·
        refine L.y rfl (Y.fieldP fd61_0 rfl) ?_
        refine L.y rfl (Y.loadP (i := 0) ag3 rfl rfl rfl) ?_
        refine L.ite h rfl (Y.lss rfl rfl) (fun c19 h => ?_) (fun c19 h => ?_)
        ·
         refine L.y rfl (Y.move rfl) ?_
         refine L.pass rfl rfl (by nofun) ?_
         refine L.pass rfl rfl (by nofun) ?_
         refine L.pass rfl rfl (by nofun) ?_
         refine L.y rfl (Y.pickT rfl rfl) ?_
         exact L.nil (E.joinJ ⟨true, rfl, rfl, h⟩ ⟨rfl, rfl, rfl, rfl, rfl, rfl, rfl, trivial⟩ (fun _ hw => hw))
        ·
         refine L.y rfl (Y.move rfl) ?_
         refine L.take rfl (L.y rfl (Y.fieldP fd61_0 rfl) ?_)
         refine L.take rfl (L.y rfl (Y.loadP (i := 0) ag3 rfl rfl rfl) ?_)
         refine L.take rfl (L.ite h rfl (Y.gtr rfl rfl) (fun c20 h => ?_) (fun c20 h => ?_))
         ·
          refine L.y rfl (Y.pickF rfl rfl) ?_
          exact L.nil (E.joinJ ⟨true, rfl, rfl, h⟩ ⟨rfl, rfl, rfl, rfl, rfl, rfl, rfl, trivial⟩ (fun _ hw => hw))
         ·
          refine L.y rfl (Y.pickF rfl rfl) ?_
          exact L.nil (E.joinJ ⟨false, rfl, rfl, h⟩ ⟨rfl, rfl, rfl, rfl, rfl, rfl, rfl, trivial⟩ (fun _ hw => hw))
       ·
        rintro _ _ ⟨gb5, rfl, rfl, h⟩
        rw [m43_quirref_RunErr_K8] at h
        rcases gb5 with _ | _
        ·
         replace h := iteF h
         refine L.y rfl (Y.move rfl) ?_
         refine L.take rfl (L.y rfl (Y.fieldP fd61_2 rfl) ?_)
         refine L.take rfl (L.y rfl (Y.loadP (i := 0) ag3 rfl rfl rfl) ?_)
         refine L.take rfl (L.ite h rfl (Y.lss rfl rfl) (fun c17 h => ?_) (fun c17 h => ?_))
         ·
          refine L.y rfl (Y.pickF rfl rfl) ?_
          refine L.y rfl (Y.move rfl) ?_
          refine L.pass rfl rfl (by nofun) ?_
          refine L.pass rfl rfl (by nofun) ?_
          refine L.pass rfl rfl (by nofun) ?_
          refine L.y rfl (Y.pickT rfl rfl) ?_
          refine L.nil (E.thenN (W.condT rfl ?_))
          refine W.seq (W.region (L.y rfl (Y.assign rfl) ?_))
          refine L.nil (E.thenN (W.ret (E.KSR (E.blockR (E.KSR (E.KLR (E.blockR (E.KSR (E.ret1 rfl rfl (fun w1 hw => ?_))))))))))
          obtain rfl := Option.some.inj h
          exact ⟨_, _, rfl, ⟨rfl, rfl⟩, hw.sel [] (by decide) rfl⟩
         ·
          refine L.y rfl (Y.pickF rfl rfl) ?_
          refine L.y rfl (Y.move rfl) ?_
          refine L.take rfl (L.y rfl (Y.fieldP fd61_2 rfl) ?_)
          refine L.take rfl (L.y rfl (Y.loadP (i := 0) ag3 rfl rfl rfl) ?_)
          refine L.take rfl (L.ite h rfl (Y.gtr rfl rfl) (fun c18 h => ?_) (fun c18 h => ?_))
          ·
           refine L.y rfl (Y.pickF rfl rfl) ?_
           refine L.nil (E.thenN (W.condT rfl ?_))
           refine W.seq (W.region (L.y rfl (Y.assign rfl) ?_))
           refine L.nil (E.thenN (W.ret (E.KSR (E.blockR (E.KSR (E.KLR (E.blockR (E.KSR (E.ret1 rfl rfl (fun w1 hw => ?_))))))))))
           obtain rfl := Option.some.inj h
           exact ⟨_, _, rfl, ⟨rfl, rfl⟩, hw.sel [] (by decide) rfl⟩
          ·
           refine L.y rfl (Y.pickF rfl rfl) ?_
           refine L.nil (E.thenN (W.condF rfl ?_))
           exact W.skip (E.joinJ ⟨rfl, rfl, h⟩ ⟨rfl, rfl, rfl, rfl, rfl, rfl, trivial⟩ (fun _ hw => hw))
        ·
         replace h := iteT h
         refine L.y rfl (Y.move rfl) ?_
         refine L.pass rfl rfl (by nofun) ?_
         refine L.pass rfl rfl (by nofun) ?_
         refine L.pass rfl rfl (by nofun) ?_
         refine L.y rfl (Y.pickT rfl rfl) ?_
         refine L.y rfl (Y.move rfl) ?_
         refine L.pass rfl rfl (by nofun) ?_
         refine L.pass rfl rfl (by nofun) ?_
         refine L.pass rfl rfl (by nofun) ?_
         refine L.y rfl (Y.pickT rfl rfl) ?_
         refine L.nil (E.thenN (W.condT rfl ?_))
         refine W.seq (W.region (L.y rfl (Y.assign rfl) ?_))
         refine L.nil (E.thenN (W.ret (E.KSR (E.blockR (E.KSR (E.KLR (E.blockR (E.KSR (E.ret1 rfl rfl (fun w1 hw => ?_))))))))))
         obtain rfl := Option.some.inj h
         exact ⟨_, _, rfl, ⟨rfl, rfl⟩, hw.sel [] (by decide) rfl⟩
      ·
       rintro _ _ ⟨rfl, rfl, h⟩
       rw [m43_quirref_RunErr_K4] at h
       refine W.seqJ (fun gs D => gs = [(0, u0), (3, .int .i64 gx1), (4, pt b4 0), (10, u0), (11, .int .i64 (a0.length : Int)), (12, .int .i64 gx1)] ∧ D = Cls w [] [.obj b4 [.int .i64 x3.Tx, .int .i64 x3.Kind, .int .i64 x3.Item] 61] ∧ m43_quirref_RunErr_K5 a0 gx1 x3 go1 = some r) ?_ ?_
       ·
        refine W.seq (W.region (L.cutJ 8 (fun gs D => ∃ (gb3 : Bool), gs = [(0, u0), (3, .int .i64 gx1), (4, pt b4 0), (10, u0), (11, .int .i64 (a0.length : Int)), (12, .int .i64 gx1), (42, .bool gb3)] ∧ D = Cls w [] [.obj b4 [.int .i64 x3.Tx, .int .i64 x3.Kind, .int .i64 x3.Item] 61] ∧ m43_quirref_RunErr_K6 x3 a0 gx1 go1 gb3 = some r) ?_ ?_))
        ·
         refine L.y rfl (Y.fieldP fd61_1 rfl) ?_
         refine L.y rfl (Y.loadP (i := 0) ag3 rfl rfl rfl) ?_
         refine L.ite h rfl (Y.lss rfl rfl) (fun c15 h => ?_) (fun c15 h => ?_)
         ·
          refine L.y rfl (Y.move rfl) ?_
          refine L.pass rfl rfl (by nofun) ?_
          refine L.pass rfl rfl (by nofun) ?_
          refine L.pass rfl rfl (by nofun) ?_
          refine L.y rfl (Y.pickT rfl rfl) ?_
          exact L.nil (E.joinJ ⟨true, rfl, rfl, h⟩ ⟨rfl, rfl, rfl, rfl, rfl, rfl, rfl, trivial⟩ (fun _ hw => hw))
         ·
          refine L.y rfl (Y.move rfl) ?_
          refine L.take rfl (L.y rfl (Y.fieldP fd61_1 rfl) ?_)
          refine L.take rfl (L.y rfl (Y.loadP (i := 0) ag3 rfl rfl rfl) ?_)
          refine L.take rfl (L.ite h rfl (Y.gtr rfl rfl) (fun c16 h => ?_) (fun c16 h => ?_))
          ·
           refine L.y rfl (Y.pickF rfl rfl) ?_
           exact L.nil (E.joinJ ⟨true, rfl, rfl, h⟩ ⟨rfl, rfl, rfl, rfl, rfl, rfl, rfl, trivial⟩ (fun _ hw => hw))
          ·
           refine L.y rfl (Y.pickF rfl rfl) ?_
           exact L.nil (E.joinJ ⟨false, rfl, rfl, h⟩ ⟨rfl, rfl, rfl, rfl, rfl, rfl, rfl, trivial⟩ (fun _ hw => hw))
        ·
         rintro _ _ ⟨gb3, rfl, rfl, h⟩
         rw [m43_quirref_RunErr_K6] at h
         rcases gb3 with _ | _
         ·
          replace h := iteF h
          refine L.cutJ 9 (fun gs D => ∃ (gb4 : Bool), gs = [(0, u0), (3, .int .i64 gx1), (4, pt b4 0), (10, u0), (11, .int .i64 (a0.length : Int)), (12, .int .i64 gx1), (43, .bool false), (51, .bool gb4)] ∧ D = Cls w [] [.obj b4 [.int .i64 x3.Tx, .int .i64 x3.Kind, .int .i64 x3.Item] 61] ∧ m43_quirref_RunErr_K7 a0 gx1 x3 go1 gb4 = some r) ?_ ?_
          ·
           refine L.y rfl (Y.move rfl) ?_
           refine L.take rfl (L.y rfl (Y.fieldP fd61_1 rfl) ?_)
           refine L.take rfl (L.y rfl (Y.loadP (i := 0) ag3 rfl rfl rfl) ?_)
           refine L.take rfl (L.ite h rfl (Y.gtr rfl rfl) (fun c13 h => ?_) (fun c13 h => ?_))
           ·
            refine L.take rfl (L.y rfl (Y.move rfl) ?_)
            refine L.take rfl (L.y rfl (Y.fieldP fd61_2 rfl) ?_)
            refine L.take rfl (L.y rfl (Y.loadP (i := 0) ag3 rfl rfl rfl) ?_)
            refine L.take rfl (L.ite h rfl (Y.neq rfl rfl) (fun c14 h => ?_) (fun c14 h => ?_))
            ·
             refine L.take rfl (L.y rfl (Y.pickT rfl rfl) ?_)
             exact L.nil (E.joinJ ⟨true, rfl, rfl, h⟩ ⟨rfl, rfl, rfl, rfl, rfl, rfl, rfl, rfl, trivial⟩ (fun _ hw => hw))
            ·
             refine L.take rfl (L.y rfl (Y.pickT rfl rfl) ?_)
             exact L.nil (E.joinJ ⟨false, rfl, rfl, h⟩ ⟨rfl, rfl, rfl, rfl, rfl, rfl, rfl, rfl, trivial⟩ (fun _ hw => hw))
           ·
            refine L.take rfl (L.y rfl (Y.move rfl) ?_)
            refine L.pass rfl rfl (by nofun) ?_
            refine L.pass rfl rfl (by nofun) ?_
            refine L.pass rfl rfl (by nofun) ?_
            refine L.take rfl (L.y rfl (Y.pickF rfl rfl) ?_)
            exact L.nil (E.joinJ ⟨false, rfl, rfl, h⟩ ⟨rfl, rfl, rfl, rfl, rfl, rfl, rfl, rfl, trivial⟩ (fun _ hw => hw))
          ·
           rintro _ _ ⟨gb4, rfl, rfl, h⟩
           rw [m43_quirref_RunErr_K7] at h
           rcases gb4 with _ | _
           ·
            replace h := iteF h
            refine L.y rfl (Y.pickF rfl rfl) ?_
            refine L.nil (E.thenN (W.condF rfl ?_))
            exact W.skip (E.joinJ ⟨rfl, rfl, h⟩ ⟨rfl, rfl, rfl, rfl, rfl, rfl, trivial⟩ (fun _ hw => hw))
           ·
            replace h := iteT h
            refine L.y rfl (Y.pickF rfl rfl) ?_
            refine L.nil (E.thenN (W.condT rfl ?_))
            refine W.seq (W.region (L.y rfl (Y.assign rfl) ?_))
            refine L.nil (E.thenN (W.ret (E.KSR (E.blockR (E.KSR (E.KLR (E.blockR (E.KSR (E.ret1 rfl rfl (fun w1 hw => ?_))))))))))
            obtain rfl := Option.some.inj h
            exact ⟨_, _, rfl, ⟨rfl, rfl⟩, hw.sel [] (by decide) rfl⟩
         ·
          replace h := iteT h
          refine L.y rfl (Y.move rfl) ?_
          refine L.pass rfl rfl (by nofun) ?_
          refine L.pass rfl rfl (by nofun) ?_
          refine L.pass rfl rfl (by nofun) ?_
          refine L.pass rfl rfl (by nofun) ?_
          refine L.pass rfl rfl (by nofun) ?_
          refine L.pass rfl rfl (by nofun) ?_
          refine L.pass rfl rfl (by nofun) ?_
          refine L.pass rfl rfl (by nofun) ?_
          refine L.y rfl (Y.pickT rfl rfl) ?_
          refine L.nil (E.thenN (W.condT rfl ?_))
          refine W.seq (W.region (L.y rfl (Y.assign rfl) ?_))
          refine L.nil (E.thenN (W.ret (E.KSR (E.blockR (E.KSR (E.KLR (E.blockR (E.KSR (E.ret1 rfl rfl (fun w1 hw => ?_))))))))))
          obtain rfl := Option.some.inj h
          exact ⟨_, _, rfl, ⟨rfl, rfl⟩, hw.sel [] (by decide) rfl⟩
       ·
        rintro _ _ ⟨rfl, rfl, h⟩
        rw [m43_quirref_RunErr_K5] at h
        refine W.seq (W.region (L.y rfl (Y.move rfl) ?_))
        refine L.y rfl (Y.move rfl) ?_
        refine L.m (V := fun _ => cutv u0 gx1.toNat) h rfl (Y.cutM (g := TOp.row) Try.underlying57 sz61 rfl rfl (fun w' hw => hA0.cls0 hw)) (fun l5 el5 h => ?_)
        refine L.y rfl (Y.lenM (g := TOp.row) (l := l5) Try.underlying57 rfl (fun w' hw => (At.cutM hA0 el5).cls0 hw)) ?_
        refine L.y rfl (Y.move rfl) ?_
        refine L.nil (E.thenN (W.block (W.loopJ (fun m gs D => ∃ (gx2 : Int), gs = [(0, u0), (4, pt b4 0), (10, u0), (11, .int .i64 (a0.length : Int)), (12, .int .i64 gx1), (55, cutv u0 gx1.toNat), (56, .int .i64 (l5.length : Int)), (57, .int .i64 gx2)] ∧ D = Cls w [] [.obj b4 [.int .i64 x3.Tx, .int .i64 x3.Kind, .int .i64 x3.Item] 61] ∧ m43_quirref_RunErr_L2 l5 x3 gx1 go1 m gx2 = some r) ⟨0, rfl, rfl, h⟩ ⟨rfl, rfl, rfl, rfl, rfl, rfl, rfl, rfl, trivial⟩ (fun _ hw => hw) ?_)))
        rintro m _ _ ⟨gx2, rfl, rfl, h⟩
        rcases m with _ | m
        · rw [m43_quirref_RunErr_L2] at h; cases h
        rw [m43_quirref_RunErr_L2] at h
        generalize hg2 : m43_quirref_RunErr_L2 l5 x3 gx1 go1 m = go2 at h
        rw [m43_quirref_RunErr_L2B] at h
        refine W.seq (W.region (L.ite h rfl (Y.lss rfl rfl) (fun c6 h => ?_) (fun c6 h => ?_)))
        ·
         refine L.nil (E.thenN (W.seq (W.condT rfl ?_)))
         refine W.skip (E.thenN (W.seq (W.block (W.seq (W.region (L.m (V := fun _ => el (cutv u0 gx1.toNat) (gx2.toNat * 3)) h rfl (Y.indexM (g := TOp.row) (l := l5) Try.underlying57 sz61 rfl rfl (fun w' hw => (At.cutM hA0 el5).cls0 hw)) (fun x7 ex7 h => ?_)))))))
         refine L.y rfl (Y.loadEN (r := [.int .i64 x7.Tx, .int .i64 x7.Kind, .int .i64 x7.Item]) ag61 sz61 rfl (fun w' hw => (At.cutM hA0 el5).cls0 hw) (idx_map ex7) rfl) ?_
         refine L.alloc rfl ze61 ?_
         intro b8
         refine L.store (i := 0) sz61 rfl rfl rfl rfl (by simp [Value.oneCell', Value.cells, st]) rfl (Nat.le_of_ble_eq_true rfl) ?_
         refine L.nil (E.thenN (W.seq (W.region (L.y rfl (Y.fieldP fd61_0 rfl) ?_))))
         refine L.y rfl (Y.loadP (i := 0) ag3 rfl rfl rfl) ?_
         refine L.y rfl (Y.fieldP fd61_0 rfl) ?_
         refine L.y rfl (Y.loadP (i := 1) ag3 rfl rfl rfl) ?_
         refine L.ite h rfl (Y.eql rfl rfl) (fun c9 h => ?_) (fun c9 h => ?_)
         ·
          refine L.y rfl (Y.move rfl) ?_
          refine L.take rfl (L.y rfl (Y.fieldP fd61_1 rfl) ?_)
          refine L.take rfl (L.y rfl (Y.loadP (i := 0) ag3 rfl rfl rfl) ?_)
          refine L.take rfl (L.ite h rfl (Y.gtr rfl rfl) (fun c10 h => ?_) (fun c10 h => ?_))
          ·
           refine L.y rfl (Y.pickT rfl rfl) ?_
           refine L.nil (E.thenN (W.condT rfl ?_))
           refine W.seq (W.region (L.y rfl (Y.assign rfl) ?_))
           refine L.nil (E.thenN (W.ret (E.blockR (E.thenR (E.KLR (E.blockR (E.blockR (E.KSR (E.KLR (E.blockR (E.KSR (E.ret1 rfl rfl (fun w1 hw => ?_)))))))))))))
           obtain rfl := Option.some.inj h
           exact ⟨_, _, rfl, ⟨rfl, rfl⟩, hw.sel [] (by decide) rfl⟩
          ·
           refine L.y rfl (Y.pickT rfl rfl) ?_
           refine L.nil (E.thenN (W.condF rfl ?_))
           refine W.skip (E.blockN (E.thenN (W.region (L.m (V := fun x11 => .int .i64 x11) h rfl (Y.addM rfl rfl) (fun x11 ex11 h => ?_)))))
           refine L.y rfl (Y.move rfl) ?_
           exact L.nil (E.againJ ⟨x11, rfl, rfl, by rw [hg2]; exact h⟩ (Nat.lt_succ_self _) ⟨rfl, rfl, rfl, rfl, rfl, rfl, rfl, rfl, trivial⟩ (fun _ hw => hw.sel [1] (by decide) rfl))
         ·
          refine L.y rfl (Y.move rfl) ?_
          refine L.pass rfl rfl (by nofun) ?_
          refine L.pass rfl rfl (by nofun) ?_
          refine L.pass rfl rfl (by nofun) ?_
          refine L.y rfl (Y.pickF rfl rfl) ?_
          refine L.nil (E.thenN (W.condF rfl ?_))
          refine W.skip (E.blockN (E.thenN (W.region (L.m (V := fun x12 => .int .i64 x12) h rfl (Y.addM rfl rfl) (fun x12 ex12 h => ?_)))))
          refine L.y rfl (Y.move rfl) ?_
          exact L.nil (E.againJ ⟨x12, rfl, rfl, by rw [hg2]; exact h⟩ (Nat.lt_succ_self _) ⟨rfl, rfl, rfl, rfl, rfl, rfl, rfl, rfl, trivial⟩ (fun _ hw => hw.sel [1] (by decide) rfl))
        ·
         refine L.nil (E.thenN (W.seq (W.condF rfl ?_)))
         exact W.exit (E.thenX (E.KLX (E.blockX (E.blockN (E.joinJ ⟨rfl, rfl, h⟩ ⟨rfl, rfl, rfl, rfl, trivial⟩ (fun _ hw => hw.sel [] (by decide) rfl))))))
     ·
      rintro _ _ ⟨rfl, rfl, h⟩
      rw [m43_quirref_RunErr_K3] at h
      refine W.region (L.m (V := fun x2 => .int .i64 x2) h rfl (Y.addM rfl rfl) (fun x2 ex2 h => ?_))
      refine L.y rfl (Y.move rfl) ?_
      exact L.nil (E.againJ ⟨x2, rfl, rfl, by rw [hg1]; exact h⟩ (Nat.lt_succ_self _) ⟨rfl, rfl, rfl, rfl, trivial⟩ (fun _ hw => hw))
    ·
     refine L.nil (E.thenN (W.seq (W.condF rfl ?_)))
     exact W.exit (E.thenX (E.KLX (E.blockX (E.joinJ ⟨rfl, rfl, h⟩ trivial (fun _ hw => hw)))))
   ·
    rintro _ _ ⟨rfl, rfl, h⟩
    rw [m43_quirref_RunErr_K2] at h
    refine W.seq (W.region (L.y rfl (Y.assign rfl) ?_))
    refine L.nil (E.thenN (W.ret (E.ret1 rfl rfl (fun w1 hw => ?_))))
    obtain rfl := Option.some.inj h
    exact ⟨_, _, rfl, ⟨rfl, rfl⟩, hw⟩
set_option maxRecDepth 100000 in
set_option maxHeartbeats 8000000 in
theorem w147_api_Op (a0 : (List TOp)) (a1 : (List TOp)) (u0 : Value) (u1 : Value) (w : World) (r : Bool) (h : m147_api_Op a0 a1 = some r) (hA0 : At w u0 3 (a0.map TOp.row)) (hA1 : At w u1 3 (a1.map TOp.row)) : Does Try.prog 147 [u0, u1] w fun u m => u = .bool r ∧ m = [] := by
  rw [m147_api_Op] at h
  refine body (n := 26) Try.func147 rfl rfl rfl (Cls.refl w) ?_
  refine W.seq (W.region (L.y rfl (Y.assign rfl) ?_))
  refine L.nil (E.thenN (W.seqJ (fun gs D => gs = [(0, u0), (1, u1)] ∧ D = Cls w [] [] ∧ m147_api_Op_K1 a0 a1 = some r) ?_ ?_))
  ·
   refine W.seq (W.region (L.y rfl (Y.move rfl) ?_))
   refine L.y rfl (Y.lenM (g := TOp.row) (l := a0) Try.underlying57 rfl (fun w' hw => hA0.cls0 hw)) ?_
   refine L.y rfl (Y.move rfl) ?_
   refine L.y rfl (Y.lenM (g := TOp.row) (l := a1) Try.underlying57 rfl (fun w' hw => hA1.cls0 hw)) ?_
   refine L.ite h rfl (Y.neq rfl rfl) (fun c6 h => ?_) (fun c6 h => ?_)
   ·
    refine L.nil (E.thenN (W.condT rfl ?_))
    refine W.seq (W.region (L.y rfl (Y.assign rfl) ?_))
    refine L.nil (E.thenN (W.ret (E.KSR (E.ret1 rfl rfl (fun w1 hw => ?_)))))
    obtain rfl := Option.some.inj h
    exact ⟨_, _, rfl, ⟨rfl, rfl⟩, hw⟩
   ·
    refine L.nil (E.thenN (W.condF rfl ?_))
    exact W.skip (E.joinJ ⟨rfl, rfl, h⟩ ⟨rfl, rfl, trivial⟩ (fun _ hw => hw))
  ·
   rintro _ _ ⟨rfl, rfl, h⟩
   rw [m147_api_Op_K1] at h
   refine W.seqJ (fun gs D => gs = [] ∧ D = Cls w [] [] ∧ m147_api_Op_K2 = some r) ?_ ?_
   ·
    refine W.seq (W.region (L.y rfl (Y.move rfl) ?_))
    refine L.y rfl (Y.lenM (g := TOp.row) (l := a0) Try.underlying57 rfl (fun w' hw => hA0.cls0 hw)) ?_
    refine L.y rfl (Y.move rfl) ?_
    refine L.nil (E.thenN (W.block (W.loopJ (fun m gs D => ∃ (gx1 : Int), gs = [(0, u0), (1, u1), (12, .int .i64 (a0.length : Int)), (13, .int .i64 gx1)] ∧ D = Cls w [] [] ∧ m147_api_Op_L1 a0 a1 m gx1 = some r) ⟨0, rfl, rfl, h⟩ ⟨rfl, rfl, rfl, rfl, trivial⟩ (fun _ hw => hw) ?_)))
    rintro m _ _ ⟨gx1, rfl, rfl, h⟩
    rcases m with _ | m
    · rw [m147_api_Op_L1] at h; cases h
    rw [m147_api_Op_L1] at h
    generalize hg1 : m147_api_Op_L1 a0 a1 m = go1 at h
    rw [m147_api_Op_L1B] at h
    refine W.seq (W.region (L.ite h rfl (Y.lss rfl rfl) (fun c1 h => ?_) (fun c1 h => ?_)))
    ·
     refine L.nil (E.thenN (W.seq (W.condT rfl ?_)))
     refine W.skip (E.thenN (W.seq (W.block (W.seq (W.region (L.y rfl (Y.move rfl) ?_))))))
     refine L.y rfl (Y.assign rfl) ?_
     refine L.nil (E.thenN (W.seq (W.quietC mixed (by kernel_rfl) (fun _ hw => hw.drew) (fun hC => ?_))))
     refine U.y rfl (Y.move rfl) ?_
     refine U.y rfl (Y.move rfl) ?_
     refine U.m (V := fun _ => el u0 (gx1.toNat * 3)) h rfl (Y.indexM (g := TOp.row) (l := a0) Try.underlying57 sz61 rfl rfl (fun w' hw => hA0.cls0 hw)) (fun x2 ex2 h => ?_)
     refine U.y rfl (Y.loadEN (r := [.int .i64 x2.Tx, .int .i64 x2.Kind, .int .i64 x2.Item]) ag61 sz61 rfl (fun w' hw => hA0.cls0 hw) (idx_map ex2) rfl) ?_
     refine U.y rfl (Y.move rfl) ?_
     refine U.y rfl (Y.move rfl) ?_
     refine U.m (V := fun _ => el u1 (gx1.toNat * 3)) h rfl (Y.indexM (g := TOp.row) (l := a1) Try.underlying57 sz61 rfl rfl (fun w' hw => hA1.cls0 hw)) (fun x3 ex3 h => ?_)
     refine U.y rfl (Y.loadEN (r := [.int .i64 x3.Tx, .int .i64 x3.Kind, .int .i64 x3.Item]) ag61 sz61 rfl (fun w' hw => hA1.cls0 hw) (idx_map ex3) rfl) ?_
     refine U.ite h rfl (Y.neqA (row := TOp.row) (a := x2) (b := x3) eg61 ag61 (sh61 _) (sh61 _) (inj61 _ _) rfl rfl) (fun c4 h => ?_) (fun c4 h => ?_)
     ·
      refine U.nil (E.thenN (W.condT rfl ?_))
      refine W.seq (W.region (L.y rfl (Y.assign rfl) ?_))
      refine L.nil (E.thenN (W.ret (E.blockR (E.thenR (E.KLR (E.blockR (E.KSR (E.ret1 rfl rfl (fun w1 hw => ?_)))))))))
      obtain rfl := Option.some.inj h
      exact ⟨_, _, rfl, ⟨rfl, rfl⟩, hw⟩
     ·
      refine U.nil (E.thenN (W.condF rfl ?_))
      refine W.skip (E.blockN (E.thenN (W.region (L.m (V := fun x5 => .int .i64 x5) h rfl (Y.addM rfl rfl) (fun x5 ex5 h => ?_)))))
      refine L.y rfl (Y.move rfl) ?_
      exact L.nil (E.againJ ⟨x5, rfl, rfl, by rw [hg1]; exact h⟩ (Nat.lt_succ_self _) ⟨rfl, rfl, rfl, rfl, trivial⟩ (fun _ hw => hw))
    ·
     refine L.nil (E.thenN (W.seq (W.condF rfl ?_)))
     exact W.exit (E.thenX (E.KLX (E.blockX (E.joinJ ⟨rfl, rfl, h⟩ trivial (fun _ hw => hw)))))
   ·
    rintro _ _ ⟨rfl, rfl, h⟩
    rw [m147_api_Op_K2] at h
    refine W.seq (W.region (L.y rfl (Y.assign rfl) ?_))
    refine L.nil (E.thenN (W.ret (E.ret1 rfl rfl (fun w1 hw => ?_))))
    obtain rfl := Option.some.inj h
    exact ⟨_, _, rfl, ⟨rfl, rfl⟩, hw⟩
set_option maxRecDepth 100000 in
set_option maxHeartbeats 8000000 in
theorem w33_slices_Equal_int (a0 : (List Int)) (a1 : (List Int)) (u0 : Value) (u1 : Value) (w : World) (r : Bool) (h : m33_slices_Equal_int a0 a1 = some r) (hA0 : At w u0 1 (a0.map I)) (hA1 : At w u1 1 (a1.map I)) : Does Try.prog 33 [u0, u1] w fun u m => u = .bool r ∧ m = [] := by
  rw [m33_slices_Equal_int] at h
  refine body (n := 26) Try.func33 rfl rfl rfl (Cls.refl w) ?_
  refine W.seq (W.region (L.y rfl (Y.assign rfl) ?_))
  refine L.nil (E.thenN (W.seqJ (fun gs D => gs = [(0, u0), (1, u1)] ∧ D = Cls w [] [] ∧ m33_slices_Equal_int_K1 a0 a1 = some r) ?_ ?_))
  ·
   refine W.seq (W.region (L.y rfl (Y.move rfl) ?_))
   refine L.y rfl (Y.lenM (g := I) (l := a0) Try.underlying36 rfl (fun w' hw => hA0.cls0 hw)) ?_
   refine L.y rfl (Y.move rfl) ?_
   refine L.y rfl (Y.lenM (g := I) (l := a1) Try.underlying36 rfl (fun w' hw => hA1.cls0 hw)) ?_
   refine L.ite h rfl (Y.neq rfl rfl) (fun c6 h => ?_) (fun c6 h => ?_)
   ·
    refine L.nil (E.thenN (W.condT rfl ?_))
    refine W.seq (W.region (L.y rfl (Y.assign rfl) ?_))
    refine L.nil (E.thenN (W.ret (E.KSR (E.ret1 rfl rfl (fun w1 hw => ?_)))))
    obtain rfl := Option.some.inj h
    exact ⟨_, _, rfl, ⟨rfl, rfl⟩, hw⟩
   ·
    refine L.nil (E.thenN (W.condF rfl ?_))
    exact W.skip (E.joinJ ⟨rfl, rfl, h⟩ ⟨rfl, rfl, trivial⟩ (fun _ hw => hw))
  ·
   rintro _ _ ⟨rfl, rfl, h⟩
   rw [m33_slices_Equal_int_K1] at h
   refine W.seqJ (fun gs D => gs = [] ∧ D = Cls w [] [] ∧ m33_slices_Equal_int_K2 = some r) ?_ ?_
   ·
    refine W.seq (W.region (L.y rfl (Y.move rfl) ?_))
    refine L.y rfl (Y.lenM (g := I) (l := a0) Try.underlying36 rfl (fun w' hw => hA0.cls0 hw)) ?_
    refine L.y rfl (Y.move rfl) ?_
    refine L.nil (E.thenN (W.block (W.loopJ (fun m gs D => ∃ (gx1 : Int), gs = [(0, u0), (1, u1), (12, .int .i64 (a0.length : Int)), (13, .int .i64 gx1)] ∧ D = Cls w [] [] ∧ m33_slices_Equal_int_L1 a0 a1 m gx1 = some r) ⟨0, rfl, rfl, h⟩ ⟨rfl, rfl, rfl, rfl, trivial⟩ (fun _ hw => hw) ?_)))
    rintro m _ _ ⟨gx1, rfl, rfl, h⟩
    rcases m with _ | m
    · rw [m33_slices_Equal_int_L1] at h; cases h
    rw [m33_slices_Equal_int_L1] at h
    generalize hg1 : m33_slices_Equal_int_L1 a0 a1 m = go1 at h
    rw [m33_slices_Equal_int_L1B] at h
    refine W.seq (W.region (L.ite h rfl (Y.lss rfl rfl) (fun c1 h => ?_) (fun c1 h => ?_)))
    ·
     refine L.nil (E.thenN (W.seq (W.condT rfl ?_)))
     refine W.skip (E.thenN (W.seq (W.block (W.seq (W.region (L.y rfl (Y.move rfl) ?_))))))
     refine L.y rfl (Y.assign rfl) ?_
     refine L.nil (E.thenN (W.seq (W.quietC mixed (by kernel_rfl) (fun _ hw => hw.drew) (fun hC => ?_))))
     refine U.y rfl (Y.move rfl) ?_
     refine U.y rfl (Y.move rfl) ?_
     refine U.m (V := fun _ => el u0 (gx1.toNat * 1)) h rfl (Y.indexM (g := I) (l := a0) Try.underlying36 sz3 rfl rfl (fun w' hw => hA0.cls0 hw)) (fun x2 ex2 h => ?_)
     refine U.y rfl (Y.loadE1 (u := .int .i64 x2) ag3 rfl (fun w' hw => hA0.cls0 hw) (idx_map ex2)) ?_
     refine U.y rfl (Y.move rfl) ?_
     refine U.y rfl (Y.move rfl) ?_
     refine U.m (V := fun _ => el u1 (gx1.toNat * 1)) h rfl (Y.indexM (g := I) (l := a1) Try.underlying36 sz3 rfl rfl (fun w' hw => hA1.cls0 hw)) (fun x3 ex3 h => ?_)
     refine U.y rfl (Y.loadE1 (u := .int .i64 x3) ag3 rfl (fun w' hw => hA1.cls0 hw) (idx_map ex3)) ?_
     refine U.ite h rfl (Y.neq rfl rfl) (fun c4 h => ?_) (fun c4 h => ?_)
     ·
      refine U.nil (E.thenN (W.condT rfl ?_))
      refine W.seq (W.region (L.y rfl (Y.assign rfl) ?_))
      refine L.nil (E.thenN (W.ret (E.blockR (E.thenR (E.KLR (E.blockR (E.KSR (E.ret1 rfl rfl (fun w1 hw => ?_)))))))))
      obtain rfl := Option.some.inj h
      exact ⟨_, _, rfl, ⟨rfl, rfl⟩, hw⟩
     ·
      refine U.nil (E.thenN (W.condF rfl ?_))
      refine W.skip (E.blockN (E.thenN (W.region (L.m (V := fun x5 => .int .i64 x5) h rfl (Y.addM rfl rfl) (fun x5 ex5 h => ?_)))))
      refine L.y rfl (Y.move rfl) ?_
      exact L.nil (E.againJ ⟨x5, rfl, rfl, by rw [hg1]; exact h⟩ (Nat.lt_succ_self _) ⟨rfl, rfl, rfl, rfl, trivial⟩ (fun _ hw => hw))
    ·
     refine L.nil (E.thenN (W.seq (W.condF rfl ?_)))
     exact W.exit (E.thenX (E.KLX (E.blockX (E.joinJ ⟨rfl, rfl, h⟩ trivial (fun _ hw => hw)))))
   ·
    rintro _ _ ⟨rfl, rfl, h⟩
    rw [m33_slices_Equal_int_K2] at h
    refine W.seq (W.region (L.y rfl (Y.assign rfl) ?_))
    refine L.nil (E.thenN (W.ret (E.ret1 rfl rfl (fun w1 hw => ?_))))
    obtain rfl := Option.some.inj h
    exact ⟨_, _, rfl, ⟨rfl, rfl⟩, hw⟩
set_option maxRecDepth 100000 in
set_option maxHeartbeats 8000000 in
theorem w44_quirref_SamePlayed (a0 : TPlayed) (a1 : TPlayed) (u0_0 : Value) (u0_1 : Value) (u0_2 : Value) (u1_3 : Value) (u1_4 : Value) (u1_5 : Value) (w : World) (r : Bool) (h : m44_quirref_SamePlayed a0 a1 = some r) (hA0_0 : At w u0_0 3 (a0.Run.map TOp.row)) (hA0_1 : At w u0_1 1 (a0.Dead.map I)) (hA0_2 : At w u0_2 1 (a0.Late.map I)) (hA1_3 : At w u1_3 3 (a1.Run.map TOp.row)) (hA1_4 : At w u1_4 1 (a1.Dead.map I)) (hA1_5 : At w u1_5 1 (a1.Late.map I)) : Does Try.prog 44 [.agg #[u0_0, u0_1, u0_2], .agg #[u1_3, u1_4, u1_5]] w fun u m => u = .bool r ∧ m = [] := by
  rw [m44_quirref_SamePlayed] at h
  refine body (n := 24) Try.func44 rfl rfl rfl (Cls.refl w) ?_
  refine W.seq (W.region (L.box rfl rfl ?_))
  intro b1
  refine L.box rfl rfl ?_
  intro b2
  refine L.y rfl (Y.assign rfl) ?_
  refine L.nil (E.thenN (W.seq (W.region (L.cutJ 12 (fun gs D => ∃ (gb1 : Bool), gs = [(2, pt b1 0), (3, pt b2 0), (16, .bool gb1)] ∧ D = Cls w [] [.obj b2 [u1_3, u1_4, u1_5] 82, .obj b1 [u0_0, u0_1, u0_2] 82] ∧ m44_quirref_SamePlayed_K1 a0 a1 gb1 = some r) ?_ ?_))))
  ·
   refine L.y rfl (Y.fieldP fd82_0 rfl) ?_
   refine L.y rfl (Y.loadP (i := 1) ag57 rfl rfl rfl) ?_
   refine L.y rfl (Y.fieldP fd82_0 rfl) ?_
   refine L.y rfl (Y.loadP (i := 0) ag57 rfl rfl rfl) ?_
   obtain ⟨b5, e6, h⟩ := bind1S h
   refine L.y rfl (Y.does en147 rfl (fun w' hw => (w147_api_Op a0.Run a1.Run u0_0 u1_3 w' _ e6 (hA0_0.cls0 hw) (hA1_3.cls0 hw)).mono (fun _ _ h => h.1))) ?_
   rcases b5 with _ | _
   ·
    replace h := iteF h
    refine L.y rfl (Y.move rfl) ?_
    refine L.pass rfl rfl (by nofun) ?_
    refine L.pass rfl rfl (by nofun) ?_
    refine L.pass rfl rfl (by nofun) ?_
    refine L.pass rfl rfl (by nofun) ?_
    refine L.pass rfl rfl (by nofun) ?_
    refine L.y rfl (Y.pickF rfl rfl) ?_
    exact L.nil (E.joinJ ⟨false, rfl, rfl, h⟩ ⟨rfl, rfl, rfl, trivial⟩ (fun _ hw => hw))
   ·
    replace h := iteT h
    refine L.y rfl (Y.move rfl) ?_
    refine L.take rfl (L.y rfl (Y.fieldP fd82_1 rfl) ?_)
    refine L.take rfl (L.y rfl (Y.loadP (i := 1) ag36 rfl rfl rfl) ?_)
    refine L.take rfl (L.y rfl (Y.fieldP fd82_1 rfl) ?_)
    refine L.take rfl (L.y rfl (Y.loadP (i := 0) ag36 rfl rfl rfl) ?_)
    refine L.take rfl ?_
    obtain ⟨b7, e8, h⟩ := bind1S h
    refine L.y rfl (Y.does en33 rfl (fun w' hw => (w33_slices_Equal_int a0.Dead a1.Dead u0_1 u1_4 w' _ e8 (hA0_1.cls0 hw) (hA1_4.cls0 hw)).mono (fun _ _ h => h.1))) ?_
    rcases b7 with _ | _
    ·
     replace h := iteF h
     refine L.y rfl (Y.pickT rfl rfl) ?_
     exact L.nil (E.joinJ ⟨false, rfl, rfl, h⟩ ⟨rfl, rfl, rfl, trivial⟩ (fun _ hw => hw))
    ·
     replace h := iteT h
     refine L.y rfl (Y.pickT rfl rfl) ?_
     exact L.nil (E.joinJ ⟨true, rfl, rfl, h⟩ ⟨rfl, rfl, rfl, trivial⟩ (fun _ hw => hw))
  ·
   rintro _ _ ⟨gb1, rfl, rfl, h⟩
   rw [m44_quirref_SamePlayed_K1] at h
   rcases gb1 with _ | _
   ·
    replace h := iteF h
    refine L.y rfl (Y.move rfl) ?_
    refine L.pass rfl rfl (by nofun) ?_
    refine L.pass rfl rfl (by nofun) ?_
    refine L.pass rfl rfl (by nofun) ?_
    refine L.pass rfl rfl (by nofun) ?_
    refine L.pass rfl rfl (by nofun) ?_
    refine L.y rfl (Y.pickF rfl rfl) ?_
    refine L.y rfl (Y.assign rfl) ?_
    refine L.nil (E.thenN (W.ret (E.ret1 rfl rfl (fun w1 hw => ?_))))
    obtain rfl := Option.some.inj h
    exact ⟨_, _, rfl, ⟨rfl, rfl⟩, hw.sel [] (by decide) rfl⟩
   ·
    replace h := iteT h
    refine L.y rfl (Y.move rfl) ?_
    refine L.take rfl (L.y rfl (Y.fieldP fd82_2 rfl) ?_)
    refine L.take rfl (L.y rfl (Y.loadP (i := 1) ag36 rfl rfl rfl) ?_)
    refine L.take rfl (L.y rfl (Y.fieldP fd82_2 rfl) ?_)
    refine L.take rfl (L.y rfl (Y.loadP (i := 0) ag36 rfl rfl rfl) ?_)
    refine L.take rfl ?_
    obtain ⟨b3, e4, h⟩ := bind1S h
    refine L.y rfl (Y.does en33 rfl (fun w' hw => (w33_slices_Equal_int a0.Late a1.Late u0_2 u1_5 w' _ e4 (hA0_2.cls0 hw) (hA1_5.cls0 hw)).mono (fun _ _ h => h.1))) ?_
    refine L.y rfl (Y.pickT rfl rfl) ?_
    refine L.y rfl (Y.assign rfl) ?_
    refine L.nil (E.thenN (W.ret (E.ret1 rfl rfl (fun w1 hw => ?_))))
    obtain rfl := Option.some.inj h
    exact ⟨_, _, rfl, ⟨rfl, rfl⟩, hw.sel [] (by decide) rfl⟩
set_option maxRecDepth 100000 in
set_option maxHeartbeats 8000000 in
theorem w196_slices_Index_int (a0 : (List Int)) (a1 : Int) (u0 : Value) (w : World) (r : Int) (h : m196_slices_Index_int a0 a1 = some r) (hA0 : At w u0 1 (a0.map I)) : Does Try.prog 196 [u0, .int .i64 a1] w fun u m => u = .int .i64 r ∧ m = [] := by
  rw [m196_slices_Index_int] at h
  refine body (n := 19) Try.func196 rfl rfl rfl (Cls.refl w) ?_
  refine W.seq (W.region (L.y rfl (Y.assign rfl) ?_))
  refine L.nil (E.thenN (W.seqJ (fun gs D => gs = [] ∧ D = Cls w [] [] ∧ m196_slices_Index_int_K1 = some r) ?_ ?_))
  ·
   refine W.seq (W.region (L.y rfl (Y.move rfl) ?_))
   refine L.y rfl (Y.lenM (g := I) (l := a0) Try.underlying36 rfl (fun w' hw => hA0.cls0 hw)) ?_
   refine L.y rfl (Y.move rfl) ?_
   refine L.nil (E.thenN (W.block (W.loopJ (fun m gs D => ∃ (gx1 : Int), gs = [(0, u0), (1, .int .i64 a1), (7, .int .i64 (a0.length : Int)), (8, .int .i64 gx1)] ∧ D = Cls w [] [] ∧ m196_slices_Index_int_L1 a0 a1 m gx1 = some r) ⟨0, rfl, rfl, h⟩ ⟨rfl, rfl, rfl, rfl, trivial⟩ (fun _ hw => hw) ?_)))
   rintro m _ _ ⟨gx1, rfl, rfl, h⟩
   rcases m with _ | m
   · rw [m196_slices_Index_int_L1] at h; cases h
   rw [m196_slices_Index_int_L1] at h
   generalize hg1 : m196_slices_Index_int_L1 a0 a1 m = go1 at h
   rw [m196_slices_Index_int_L1B] at h
   refine W.seq (W.region (L.ite h rfl (Y.lss rfl rfl) (fun c1 h => ?_) (fun c1 h => ?_)))
   ·
    refine L.nil (E.thenN (W.seq (W.condT rfl ?_)))
    refine W.skip (E.thenN (W.seq (W.block (W.seq (W.region (L.y rfl (Y.move rfl) ?_))))))
    refine L.y rfl (Y.assign rfl) ?_
    refine L.nil (E.thenN (W.seq (W.region (L.y rfl (Y.move rfl) ?_))))
    refine L.y rfl (Y.move rfl) ?_
    refine L.y rfl (Y.move rfl) ?_
    refine L.m (V := fun _ => el u0 (gx1.toNat * 1)) h rfl (Y.indexM (g := I) (l := a0) Try.underlying36 sz3 rfl rfl (fun w' hw => hA0.cls0 hw)) (fun x2 ex2 h => ?_)
    refine L.y rfl (Y.loadE1 (u := .int .i64 x2) ag3 rfl (fun w' hw => hA0.cls0 hw) (idx_map ex2)) ?_
    refine L.ite h rfl (Y.eql rfl rfl) (fun c3 h => ?_) (fun c3 h => ?_)
    ·
     refine L.nil (E.thenN (W.condT rfl ?_))
     refine W.seq (W.region (L.y rfl (Y.move rfl) ?_))
     refine L.y rfl (Y.assign rfl) ?_
     refine L.nil (E.thenN (W.ret (E.blockR (E.thenR (E.KLR (E.blockR (E.KSR (E.ret1 rfl rfl (fun w1 hw => ?_)))))))))
     obtain rfl := Option.some.inj h
     exact ⟨_, _, rfl, ⟨rfl, rfl⟩, hw⟩
    ·
     refine L.nil (E.thenN (W.condF rfl ?_))
     refine W.skip (E.blockN (E.thenN (W.region (L.m (V := fun x4 => .int .i64 x4) h rfl (Y.addM rfl rfl) (fun x4 ex4 h => ?_)))))
     refine L.y rfl (Y.move rfl) ?_
     exact L.nil (E.againJ ⟨x4, rfl, rfl, by rw [hg1]; exact h⟩ (Nat.lt_succ_self _) ⟨rfl, rfl, rfl, rfl, trivial⟩ (fun _ hw => hw))
   ·
    refine L.nil (E.thenN (W.seq (W.condF rfl ?_)))
    exact W.exit (E.thenX (E.KLX (E.blockX (E.joinJ ⟨rfl, rfl, h⟩ trivial (fun _ hw => hw)))))
  ·
   rintro _ _ ⟨rfl, rfl, h⟩
   rw [m196_slices_Index_int_K1] at h
   refine W.seq (W.region (L.y rfl (Y.assign rfl) ?_))
   refine L.nil (E.thenN (W.ret (E.ret1 rfl rfl (fun w1 hw => ?_))))
   obtain rfl := Option.some.inj h
   exact ⟨_, _, rfl, ⟨rfl, rfl⟩, hw⟩
set_option maxRecDepth 100000 in
set_option maxHeartbeats 8000000 in
theorem w151_slices_Contains_int (a0 : (List Int)) (a1 : Int) (u0 : Value) (w : World) (r : Bool) (h : m151_slices_Contains_int a0 a1 = some r) (hA0 : At w u0 1 (a0.map I)) : Does Try.prog 151 [u0, .int .i64 a1] w fun u m => u = .bool r ∧ m = [] := by
  rw [m151_slices_Contains_int] at h
  refine body (n := 9) Try.func151 rfl rfl rfl (Cls.refl w) ?_
  refine W.seq (W.region (L.y rfl (Y.assign rfl) ?_))
  refine L.nil (E.thenN (W.seq (W.region (L.y rfl (Y.move rfl) ?_))))
  refine L.y rfl (Y.move rfl) ?_
  obtain ⟨x1, e2, h⟩ := bind1S h
  refine L.y rfl (Y.does en196 rfl (fun w' hw => (w196_slices_Index_int a0 a1 u0 w' _ e2 (hA0.cls0 hw)).mono (fun _ _ h => h.1))) ?_
  refine L.y rfl (Y.geq rfl rfl) ?_
  refine L.y rfl (Y.assign rfl) ?_
  refine L.nil (E.thenN (W.ret (E.ret1 rfl rfl (fun w1 hw => ?_))))
  obtain rfl := Option.some.inj h
  exact ⟨_, _, rfl, ⟨rfl, rfl⟩, hw⟩
set_option maxRecDepth 100000 in
set_option maxHeartbeats 8000000 in
theorem w45_quirref_Stamp (a0 : (List TOp)) (a1 : Bool) (u0 : Value) (w : World) (r : TPlayed) (h : m45_quirref_Stamp a0 a1 = some r) (hA0 : At w u0 3 (a0.map TOp.row)) : Does Try.prog 45 [u0, .bool a1] w fun u m => ∃ v0 v1 v2, u = .agg #[v0, v1, v2] ∧ m = [.sl v0 61 3 (r.Run.map TOp.row), .sl v1 3 1 (r.Dead.map I), .sl v2 3 1 (r.Late.map I)] := by
  rw [m45_quirref_Stamp] at h
  refine body (n := 79) Try.func45 rfl rfl rfl (Cls.refl w) ?_
  refine W.seq (W.region (L.alloc rfl ze82 ?_))
  intro b1
  refine L.nil (E.thenN (W.seq (W.region (L.alloc rfl ze82 ?_))))
  intro b2
  refine L.nil (E.thenN (W.seq (W.region (L.y rfl (Y.func rfl) ?_))))
  refine L.y rfl (Y.assign rfl) ?_
  refine L.nil (E.thenN (W.seqJ (fun gs D => ∃ (gv1 : Value) (gl2 : (List TOp)) (gv3 : Value) (gl4 : (List Int)), gs = [(4, pt b1 0), (5, pt b2 0)] ∧ D = Cls w [] [.obj b2 [gv1, gv3, .slice none 0 0] 82, .obj b1 [.slice none 0 0, .slice none 0 0, .slice none 0 0] 82, .sl gv1 61 3 (gl2.map TOp.row), .sl gv3 3 1 (gl4.map I)] ∧ m45_quirref_Stamp_K1 gl2 gl4 = some r) ?_ ?_))
  ·
   refine W.seq (W.region (L.y rfl (Y.move rfl) ?_))
   refine L.y rfl (Y.lenM (g := TOp.row) (l := a0) Try.underlying57 rfl (fun w' hw => hA0.cls0 hw)) ?_
   refine L.y rfl (Y.move rfl) ?_
   refine L.nil (E.thenN (W.block (W.nilSl 61 3 ?_)))
   refine W.nilSl 3 1 ?_
   refine W.loopJ (fun m gs D => ∃ (gx5 : Int) (gv6 : Value) (gl7 : (List TOp)) (gv8 : Value) (gl9 : (List Int)), gs = [(1, .bool a1), (4, pt b1 0), (5, pt b2 0), (6, .func (.func 148) #[] #[pt b2 0]), (11, u0), (12, .int .i64 (a0.length : Int)), (13, .int .i64 gx5)] ∧ D = Cls w [] [.obj b2 [gv6, gv8, .slice none 0 0] 82, .obj b1 [.slice none 0 0, .slice none 0 0, .slice none 0 0] 82, .sl gv6 61 3 (gl7.map TOp.row), .sl gv8 3 1 (gl9.map I)] ∧ m45_quirref_Stamp_L1 a0 a1 m gx5 gl7 gl9 = some r) ⟨0, .slice none 0 0, [], .slice none 0 0, [], rfl, rfl, h⟩ ⟨rfl, rfl, rfl, rfl, rfl, rfl, rfl, trivial⟩ (fun _ hw => hw.sel [2, 3, 1, 0] (by decide) rfl) ?_
   rintro m _ _ ⟨gx5, gv6, gl7, gv8, gl9, rfl, rfl, h⟩
   rcases m with _ | m
   · rw [m45_quirref_Stamp_L1] at h; cases h
   rw [m45_quirref_Stamp_L1] at h
   generalize hg1 : m45_quirref_Stamp_L1 a0 a1 m = go1 at h
   rw [m45_quirref_Stamp_L1B] at h
   refine W.seq (W.region (L.ite h rfl (Y.lss rfl rfl) (fun c4 h => ?_) (fun c4 h => ?_)))
   ·
    refine L.nil (E.thenN (W.seq (W.condT rfl ?_)))
    refine W.skip (E.thenN (W.seqJ (fun gs D => ∃ (gv10 : Value) (gl11 : (List TOp)) (gv12 : Value) (gl13 : (List Int)), gs = [(1, .bool a1), (4, pt b1 0), (5, pt b2 0), (6, .func (.func 148) #[] #[pt b2 0]), (11, u0), (12, .int .i64 (a0.length : Int)), (13, .int .i64 gx5)] ∧ D = Cls w [] [.obj b2 [gv10, gv12, .slice none 0 0] 82, .obj b1 [.slice none 0 0, .slice none 0 0, .slice none 0 0] 82, .sl gv10 61 3 (gl11.map TOp.row), .sl gv12 3 1 (gl13.map I)] ∧ m45_quirref_Stamp_K2 gx5 go1 gl11 gl13 = some r) ?_ ?_))
    ·
     refine W.block (W.seq (W.region (L.m (V := fun _ => el u0 (gx5.toNat * 3)) h rfl (Y.indexM (g := TOp.row) (l := a0) Try.underlying57 sz61 rfl rfl (fun w' hw => hA0.cls0 hw)) (fun x6 ex6 h => ?_))))
     refine L.y rfl (Y.loadEN (r := [.int .i64 x6.Tx, .int .i64 x6.Kind, .int .i64 x6.Item]) ag61 sz61 rfl (fun w' hw => hA0.cls0 hw) (idx_map ex6) rfl) ?_
     refine L.alloc rfl ze61 ?_
     intro b7
     refine L.store (i := 0) sz61 rfl rfl rfl rfl (by simp [Value.oneCell', Value.cells, st]) rfl (Nat.le_of_ble_eq_true rfl) ?_
     refine L.nil (E.thenN (W.seqJ (fun gs D => gs = [(1, .bool a1), (4, pt b1 0), (5, pt b2 0), (6, .func (.func 148) #[] #[pt b2 0]), (8, pt b7 0), (11, u0), (12, .int .i64 (a0.length : Int)), (13, .int .i64 gx5)] ∧ D = Cls w [] [.obj b7 [.int .i64 x6.Tx, .int .i64 x6.Kind, .int .i64 x6.Item] 61, .obj b2 [gv6, gv8, .slice none 0 0] 82, .obj b1 [.slice none 0 0, .slice none 0 0, .slice none 0 0] 82, .sl gv6 61 3 (gl7.map TOp.row), .sl gv8 3 1 (gl9.map I)] ∧ m45_quirref_Stamp_K3 x6 gl7 a1 gl9 gx5 go1 = some r) ?_ ?_))
     ·
      refine W.seq (W.region (L.y rfl (Y.fieldP fd82_1 rfl) ?_))
      refine L.y rfl (Y.loadP (i := 1) ag36 rfl rfl rfl) ?_
      refine L.y rfl (Y.fieldP fd61_0 rfl) ?_
      refine L.y rfl (Y.loadP (i := 0) ag3 rfl rfl rfl) ?_
      obtain ⟨b71, e72, h⟩ := bind1S h
      refine L.y rfl (Y.does en151 rfl (fun w' hw => (w151_slices_Contains_int gl9 x6.Tx gv8 w' _ e72 (As.at_ (hw.get (i := 4) rfl))).mono (fun _ _ h => h.1))) ?_
      rcases b71 with _ | _
      ·
       replace h := iteF h
       refine L.nil (E.thenN (W.condF rfl ?_))
       exact W.skip (E.joinJ ⟨rfl, rfl, h⟩ ⟨rfl, rfl, rfl, rfl, rfl, rfl, rfl, rfl, trivial⟩ (fun _ hw => hw))
      ·
       replace h := iteT h
       refine L.nil (E.thenN (W.condT rfl ?_))
       exact W.exit (E.KSX (E.blockX (E.joinJ ⟨gv6, gl7, gv8, gl9, rfl, rfl, h⟩ ⟨rfl, rfl, rfl, rfl, rfl, rfl, rfl, trivial⟩ (fun _ hw => hw.sel [1, 2, 3, 4] (by decide) rfl))))
     ·
      rintro _ _ ⟨rfl, rfl, h⟩
      rw [m45_quirref_Stamp_K3] at h
      refine W.seqJ (fun gs D => ∃ (gb14 : Bool), gs = [(1, .bool a1), (4, pt b1 0), (5, pt b2 0), (6, .func (.func 148) #[] #[pt b2 0]), (8, pt b7 0), (9, .bool gb14), (11, u0), (12, .int .i64 (a0.length : Int)), (13, .int .i64 gx5)] ∧ D = Cls w [] [.obj b7 [.int .i64 x6.Tx, .int .i64 x6.Kind, .int .i64 x6.Item] 61, .obj b2 [gv6, gv8, .slice none 0 0] 82, .obj b1 [.slice none 0 0, .slice none 0 0, .slice none 0 0] 82, .sl gv6 61 3 (gl7.map TOp.row), .sl gv8 3 1 (gl9.map I)] ∧ m45_quirref_Stamp_K4 x6 a1 gl7 gl9 gx5 go1 gb14 = some r) ?_ ?_
      ·
       refine W.region (L.cutJ 8 (fun gs D => ∃ (gb41 : Bool), gs = [(1, .bool a1), (4, pt b1 0), (5, pt b2 0), (6, .func (.func 148) #[] #[pt b2 0]), (8, pt b7 0), (11, u0), (12, .int .i64 (a0.length : Int)), (13, .int .i64 gx5), (29, .bool gb41)] ∧ D = Cls w [] [.obj b7 [.int .i64 x6.Tx, .int .i64 x6.Kind, .int .i64 x6.Item] 61, .obj b2 [gv6, gv8, .slice none 0 0] 82, .obj b1 [.slice none 0 0, .slice none 0 0, .slice none 0 0] 82, .sl gv6 61 3 (gl7.map TOp.row), .sl gv8 3 1 (gl9.map I)] ∧ m45_quirref_Stamp_K33 x6 a1 gl7 gl9 gx5 go1 gb41 = some r) ?_ ?_)
       ·
        refine L.y rfl (Y.fieldP fd61_1 rfl) ?_
        refine L.y rfl (Y.loadP (i := 0) ag3 rfl rfl rfl) ?_
        refine L.ite h rfl (Y.leq rfl rfl) (fun c62 h => ?_) (fun c62 h => ?_)
        ·
         refine L.y rfl (Y.move rfl) ?_
         refine L.take rfl (L.y rfl (Y.move rfl) ?_)
         refine L.take rfl (L.y rfl (Y.loadPW (i := 0) ag61 sz61 rfl rfl rfl) ?_)
         refine L.take rfl (L.callVJ (fun v D => ∃ (gb49 : Bool), v = .bool gb49 ∧ D = Cls w [] [.obj b7 [.int .i64 x6.Tx, .int .i64 x6.Kind, .int .i64 x6.Item] 61, .obj b2 [gv6, gv8, .slice none 0 0] 82, .obj b1 [.slice none 0 0, .slice none 0 0, .slice none 0 0] 82, .sl gv6 61 3 (gl7.map TOp.row), .sl gv8 3 1 (gl9.map I)] ∧ m45_quirref_Stamp_K41 x6 a1 gl7 gl9 gx5 go1 gb49 = some r) rfl en148 rfl rfl Try.func148 rfl rfl rfl ?_ ?_)
         ·
          refine W.seq (W.region (L.box rfl rfl ?_))
          intro b63
          refine L.box rfl rfl ?_
          intro b64
          refine L.y rfl (Y.assign rfl) ?_
          refine L.nil (E.thenN (W.seq (W.region (L.y rfl (Y.fieldP fd82_0 rfl) ?_))))
          refine L.y rfl (Y.loadP (i := 3) ag57 rfl rfl rfl) ?_
          refine L.y rfl (Y.func rfl) ?_
          refine L.callJ (fun v D => ∃ (gb50 : Bool), v = .bool gb50 ∧ D = Cls w [] [.obj b64 [.int .i64 2] 3, .obj b63 [.int .i64 x6.Tx, .int .i64 x6.Kind, .int .i64 x6.Item] 61, .obj b7 [.int .i64 x6.Tx, .int .i64 x6.Kind, .int .i64 x6.Item] 61, .obj b2 [gv6, gv8, .slice none 0 0] 82, .obj b1 [.slice none 0 0, .slice none 0 0, .slice none 0 0] 82, .sl gv6 61 3 (gl7.map TOp.row), .sl gv8 3 1 (gl9.map I)] ∧ m45_quirref_Stamp_K42 x6 a1 gl7 gl9 gx5 go1 gb50 = some r) rfl en149 rfl Try.func149 rfl rfl rfl ?_ ?_
          ·
           refine W.seq (W.region (L.y rfl (Y.assign rfl) ?_))
           refine L.nil (E.thenN (W.seq (W.region (L.y rfl (Y.move rfl) ?_))))
           refine L.y rfl (Y.move rfl) ?_
           refine L.callJ (fun v D => ∃ (gx51 : Int), v = .int .i64 gx51 ∧ D = Cls w [] [.obj b64 [.int .i64 2] 3, .obj b63 [.int .i64 x6.Tx, .int .i64 x6.Kind, .int .i64 x6.Item] 61, .obj b7 [.int .i64 x6.Tx, .int .i64 x6.Kind, .int .i64 x6.Item] 61, .obj b2 [gv6, gv8, .slice none 0 0] 82, .obj b1 [.slice none 0 0, .slice none 0 0, .slice none 0 0] 82, .sl gv6 61 3 (gl7.map TOp.row), .sl gv8 3 1 (gl9.map I)] ∧ m45_quirref_Stamp_K43 x6 a1 gl7 gl9 gx5 go1 gx51 = some r) rfl en249 rfl Try.func249 rfl rfl rfl ?_ ?_
           ·
            refine W.seq (W.region (L.y rfl (Y.assign rfl) ?_))
            refine L.nil (E.thenN (W.seqJ (fun gs D => gs = [] ∧ D = Cls w [] [.obj b64 [.int .i64 2] 3, .obj b63 [.int .i64 x6.Tx, .int .i64 x6.Kind, .int .i64 x6.Item] 61, .obj b7 [.int .i64 x6.Tx, .int .i64 x6.Kind, .int .i64 x6.Item] 61, .obj b2 [gv6, gv8, .slice none 0 0] 82, .obj b1 [.slice none 0 0, .slice none 0 0, .slice none 0 0] 82, .sl gv6 61 3 (gl7.map TOp.row), .sl gv8 3 1 (gl9.map I)] ∧ m45_quirref_Stamp_K44 x6 a1 gl7 gl9 gx5 go1 = some r) ?_ ?_))
            ·
             refine W.seq (W.region (L.y rfl (Y.move rfl) ?_))
             refine L.y rfl (Y.lenM (g := TOp.row) (l := gl7) Try.underlying57 rfl (fun w hw => As.at_ (hw.get (i := 5) rfl))) ?_
             refine L.y rfl (Y.move rfl) ?_
             refine L.nil (E.thenN (W.block (W.loopJ (fun m gs D => ∃ (gx52 : Int), gs = [(0, gv6), (1, .func (.func 150) #[] #[pt b64 0, pt b63 0]), (7, .int .i64 (gl7.length : Int)), (8, .int .i64 gx52)] ∧ D = Cls w [] [.obj b64 [.int .i64 2] 3, .obj b63 [.int .i64 x6.Tx, .int .i64 x6.Kind, .int .i64 x6.Item] 61, .obj b7 [.int .i64 x6.Tx, .int .i64 x6.Kind, .int .i64 x6.Item] 61, .obj b2 [gv6, gv8, .slice none 0 0] 82, .obj b1 [.slice none 0 0, .slice none 0 0, .slice none 0 0] 82, .sl gv6 61 3 (gl7.map TOp.row), .sl gv8 3 1 (gl9.map I)] ∧ m45_quirref_Stamp_L7 gl7 x6 a1 gl9 gx5 go1 m gx52 = some r) ⟨0, rfl, rfl, h⟩ ⟨rfl, rfl, rfl, rfl, trivial⟩ (fun _ hw => hw) ?_)))
             rintro m _ _ ⟨gx52, rfl, rfl, h⟩
             rcases m with _ | m
             · rw [m45_quirref_Stamp_L7] at h; cases h
             rw [m45_quirref_Stamp_L7] at h
             generalize hg7 : m45_quirref_Stamp_L7 gl7 x6 a1 gl9 gx5 go1 m = go7 at h
             rw [m45_quirref_Stamp_L7B] at h
             refine W.seq (W.region (L.ite h rfl (Y.lss rfl rfl) (fun c65 h => ?_) (fun c65 h => ?_)))
             ·
              refine L.nil (E.thenN (W.seq (W.condT rfl ?_)))
              refine W.skip (E.thenN (W.seq (W.block (W.seq (W.region (L.y rfl (Y.move rfl) ?_))))))
              refine L.y rfl (Y.assign rfl) ?_
              refine L.nil (E.thenN (W.seq (W.region (L.y rfl (Y.move rfl) ?_))))
              refine L.y rfl (Y.move rfl) ?_
              refine L.y rfl (Y.move rfl) ?_
              refine L.m (V := fun _ => el gv6 (gx52.toNat * 3)) h rfl (Y.indexM (g := TOp.row) (l := gl7) Try.underlying57 sz61 rfl rfl (fun w hw => As.at_ (hw.get (i := 5) rfl))) (fun x66 ex66 h => ?_)
              refine L.y rfl (Y.loadEN (r := [.int .i64 x66.Tx, .int .i64 x66.Kind, .int .i64 x66.Item]) ag61 sz61 rfl (fun w hw => As.at_ (hw.get (i := 5) rfl)) (idx_map ex66) rfl) ?_
              refine L.callVJ (fun v D => ∃ (gb53 : Bool), v = .bool gb53 ∧ D = Cls w [] [.obj b64 [.int .i64 2] 3, .obj b63 [.int .i64 x6.Tx, .int .i64 x6.Kind, .int .i64 x6.Item] 61, .obj b7 [.int .i64 x6.Tx, .int .i64 x6.Kind, .int .i64 x6.Item] 61, .obj b2 [gv6, gv8, .slice none 0 0] 82, .obj b1 [.slice none 0 0, .slice none 0 0, .slice none 0 0] 82, .sl gv6 61 3 (gl7.map TOp.row), .sl gv8 3 1 (gl9.map I)] ∧ m45_quirref_Stamp_K45 x6 a1 gl7 gl9 gx5 go1 gx52 go7 gb53 = some r) rfl en150 rfl rfl Try.func150 rfl rfl rfl ?_ ?_
              ·
               refine W.seq (W.region (L.box rfl rfl ?_))
               intro b68
               refine L.y rfl (Y.assign rfl) ?_
               refine L.nil (E.thenN (W.seq (W.region (L.cutJ 11 (fun gs D => ∃ (gb54 : Bool), gs = [(2, pt b63 0), (3, pt b68 0), (15, .bool gb54)] ∧ D = Cls w [] [.obj b68 [.int .i64 x66.Tx, .int .i64 x66.Kind, .int .i64 x66.Item] 61, .obj b64 [.int .i64 2] 3, .obj b63 [.int .i64 x6.Tx, .int .i64 x6.Kind, .int .i64 x6.Item] 61, .obj b7 [.int .i64 x6.Tx, .int .i64 x6.Kind, .int .i64 x6.Item] 61, .obj b2 [gv6, gv8, .slice none 0 0] 82, .obj b1 [.slice none 0 0, .slice none 0 0, .slice none 0 0] 82, .sl gv6 61 3 (gl7.map TOp.row), .sl gv8 3 1 (gl9.map I)] ∧ m45_quirref_Stamp_K46 x6 a1 gl7 gl9 gx5 go1 gx52 go7 x66 gb54 = some r) ?_ ?_))))
               ·
                refine L.y rfl (Y.fieldP fd61_1 rfl) ?_
                refine L.y rfl (Y.loadP (i := 0) ag3 rfl rfl rfl) ?_
                refine L.y rfl (Y.loadP (i := 1) ag3 rfl rfl rfl) ?_
                refine L.ite h rfl (Y.eql rfl rfl) (fun c69 h => ?_) (fun c69 h => ?_)
                ·
                 refine L.y rfl (Y.move rfl) ?_
                 refine L.take rfl (L.y rfl (Y.fieldP fd61_2 rfl) ?_)
                 refine L.take rfl (L.y rfl (Y.loadP (i := 0) ag3 rfl rfl rfl) ?_)
                 refine L.take rfl (L.y rfl (Y.fieldP fd61_2 rfl) ?_)
                 refine L.take rfl (L.y rfl (Y.loadP (i := 2) ag3 rfl rfl rfl) ?_)
                 refine L.take rfl (L.ite h rfl (Y.eql rfl rfl) (fun c70 h => ?_) (fun c70 h => ?_))
                 ·
                  refine L.y rfl (Y.pickT rfl rfl) ?_
                  exact L.nil (E.joinJ ⟨true, rfl, rfl, h⟩ ⟨rfl, rfl, rfl, trivial⟩ (fun _ hw => hw))
                 ·
                  refine L.y rfl (Y.pickT rfl rfl) ?_
                  exact L.nil (E.joinJ ⟨false, rfl, rfl, h⟩ ⟨rfl, rfl, rfl, trivial⟩ (fun _ hw => hw))
                ·
                 refine L.y rfl (Y.move rfl) ?_
                 refine L.pass rfl rfl (by nofun) ?_
                 refine L.pass rfl rfl (by nofun) ?_
                 refine L.pass rfl rfl (by nofun) ?_
                 refine L.pass rfl rfl (by nofun) ?_
                 refine L.pass rfl rfl (by nofun) ?_
                 refine L.y rfl (Y.pickF rfl rfl) ?_
                 exact L.nil (E.joinJ ⟨false, rfl, rfl, h⟩ ⟨rfl, rfl, rfl, trivial⟩ (fun _ hw => hw))
               ·
                rintro _ _ ⟨gb54, rfl, rfl, h⟩
                rw [m45_quirref_Stamp_K46] at h
                rcases gb54 with _ | _
                ·
                 replace h := iteF h
                 refine L.y rfl (Y.move rfl) ?_
                 refine L.pass rfl rfl (by nofun) ?_
                 refine L.pass rfl rfl (by nofun) ?_
                 refine L.pass rfl rfl (by nofun) ?_
                 refine L.pass rfl rfl (by nofun) ?_
                 refine L.pass rfl rfl (by nofun) ?_
                 refine L.y rfl (Y.pickF rfl rfl) ?_
                 refine L.y rfl (Y.assign rfl) ?_
                 refine L.nil (E.thenN (W.ret (E.ret1 rfl rfl (fun w1 hw => ?_))))
                 exact ⟨_, _, rfl, ⟨false, rfl, rfl, h⟩, hw.sel [1, 2, 3, 4, 5, 6, 7] (by decide) rfl⟩
                ·
                 replace h := iteT h
                 refine L.y rfl (Y.move rfl) ?_
                 refine L.take rfl (L.y rfl (Y.fieldP fd61_0 rfl) ?_)
                 refine L.take rfl (L.y rfl (Y.loadP (i := 0) ag3 rfl rfl rfl) ?_)
                 refine L.take rfl (L.y rfl (Y.fieldP fd61_0 rfl) ?_)
                 refine L.take rfl (L.y rfl (Y.loadP (i := 2) ag3 rfl rfl rfl) ?_)
                 refine L.take rfl (L.y rfl (Y.gtr rfl rfl) ?_)
                 refine L.y rfl (Y.pickT rfl rfl) ?_
                 refine L.y rfl (Y.assign rfl) ?_
                 refine L.nil (E.thenN (W.ret (E.ret1 rfl rfl (fun w1 hw => ?_))))
                 exact ⟨_, _, rfl, ⟨decide (x6.Tx < x66.Tx), rfl, rfl, h⟩, hw.sel [1, 2, 3, 4, 5, 6, 7] (by decide) rfl⟩
              ·
               rintro _ _ ⟨gb53, rfl, rfl, h⟩
               rw [m45_quirref_Stamp_K45] at h
               rcases gb53 with _ | _
               ·
                replace h := iteF h
                refine L.nil (E.thenN (W.condF rfl ?_))
                refine W.skip (E.blockN (E.thenN (W.region (L.m (V := fun x67 => .int .i64 x67) h rfl (Y.addM rfl rfl) (fun x67 ex67 h => ?_)))))
                refine L.y rfl (Y.move rfl) ?_
                exact L.nil (E.againJ ⟨x67, rfl, rfl, by rw [hg7]; exact h⟩ (Nat.lt_succ_self _) ⟨rfl, rfl, rfl, rfl, trivial⟩ (fun _ hw => hw))
               ·
                replace h := iteT h
                refine L.nil (E.thenN (W.condT rfl ?_))
                refine W.seq (W.region (L.y rfl (Y.move rfl) ?_))
                refine L.y rfl (Y.assign rfl) ?_
                refine L.nil (E.thenN (W.ret (E.blockR (E.thenR (E.KLR (E.blockR (E.KSR (E.ret1 rfl rfl (fun w1 hw => ?_)))))))))
                exact ⟨_, _, rfl, ⟨gx52, rfl, rfl, h⟩, hw⟩
             ·
              refine L.nil (E.thenN (W.seq (W.condF rfl ?_)))
              exact W.exit (E.thenX (E.KLX (E.blockX (E.joinJ ⟨rfl, rfl, h⟩ trivial (fun _ hw => hw)))))
            ·
             rintro _ _ ⟨rfl, rfl, h⟩
             rw [m45_quirref_Stamp_K44] at h
             refine W.seq (W.region (L.y rfl (Y.assign rfl) ?_))
             refine L.nil (E.thenN (W.ret (E.ret1 rfl rfl (fun w1 hw => ?_))))
             exact ⟨_, _, rfl, ⟨(-1), rfl, rfl, h⟩, hw⟩
           ·
            rintro _ _ ⟨gx51, rfl, rfl, h⟩
            rw [m45_quirref_Stamp_K43] at h
            refine L.y rfl (Y.geq rfl rfl) ?_
            refine L.y rfl (Y.assign rfl) ?_
            refine L.nil (E.thenN (W.ret (E.ret1 rfl rfl (fun w1 hw => ?_))))
            exact ⟨_, _, rfl, ⟨decide (0 ≤ gx51), rfl, rfl, h⟩, hw⟩
          ·
           rintro _ _ ⟨gb50, rfl, rfl, h⟩
           rw [m45_quirref_Stamp_K42] at h
           refine L.y rfl (Y.assign rfl) ?_
           refine L.nil (E.thenN (W.ret (E.ret1 rfl rfl (fun w1 hw => ?_))))
           exact ⟨_, _, rfl, ⟨gb50, rfl, rfl, h⟩, hw.sel [2, 3, 4, 5, 6] (by decide) rfl⟩
         ·
          rintro _ _ ⟨gb49, rfl, rfl, h⟩
          rw [m45_quirref_Stamp_K41] at h
          rcases gb49 with _ | _
          ·
           replace h := iteF h
           refine L.y rfl (Y.pickT rfl rfl) ?_
           exact L.nil (E.joinJ ⟨false, rfl, rfl, h⟩ ⟨rfl, rfl, rfl, rfl, rfl, rfl, rfl, rfl, rfl, trivial⟩ (fun _ hw => hw))
          ·
           replace h := iteT h
           refine L.y rfl (Y.pickT rfl rfl) ?_
           exact L.nil (E.joinJ ⟨true, rfl, rfl, h⟩ ⟨rfl, rfl, rfl, rfl, rfl, rfl, rfl, rfl, rfl, trivial⟩ (fun _ hw => hw))
        ·
         refine L.y rfl (Y.move rfl) ?_
         refine L.pass rfl rfl (by nofun) ?_
         refine L.pass rfl rfl (by nofun) ?_
         refine L.pass rfl rfl (by nofun) ?_
         refine L.y rfl (Y.pickF rfl rfl) ?_
         exact L.nil (E.joinJ ⟨false, rfl, rfl, h⟩ ⟨rfl, rfl, rfl, rfl, rfl, rfl, rfl, rfl, rfl, trivial⟩ (fun _ hw => hw))
       ·
        rintro _ _ ⟨gb41, rfl, rfl, h⟩
        rw [m45_quirref_Stamp_K33] at h
        rcases gb41 with _ | _
        ·
         replace h := iteF h
         refine L.cutJ 9 (fun gs D => ∃ (gb42 : Bool), gs = [(1, .bool a1), (4, pt b1 0), (5, pt b2 0), (6, .func (.func 148) #[] #[pt b2 0]), (8, pt b7 0), (11, u0), (12, .int .i64 (a0.length : Int)), (13, .int .i64 gx5), (30, .bool false), (38, .bool gb42)] ∧ D = Cls w [] [.obj b7 [.int .i64 x6.Tx, .int .i64 x6.Kind, .int .i64 x6.Item] 61, .obj b2 [gv6, gv8, .slice none 0 0] 82, .obj b1 [.slice none 0 0, .slice none 0 0, .slice none 0 0] 82, .sl gv6 61 3 (gl7.map TOp.row), .sl gv8 3 1 (gl9.map I)] ∧ m45_quirref_Stamp_K34 x6 a1 gl7 gl9 gx5 go1 gb42 = some r) ?_ ?_
         ·
          refine L.y rfl (Y.move rfl) ?_
          refine L.take rfl (L.y rfl (Y.fieldP fd61_1 rfl) ?_)
          refine L.take rfl (L.y rfl (Y.loadP (i := 0) ag3 rfl rfl rfl) ?_)
          refine L.take rfl (L.ite h rfl (Y.eql rfl rfl) (fun c53 h => ?_) (fun c53 h => ?_))
          ·
           refine L.take rfl (L.y rfl (Y.move rfl) ?_)
           refine L.take rfl (L.y rfl (Y.move rfl) ?_)
           refine L.take rfl (L.y rfl (Y.loadPW (i := 0) ag61 sz61 rfl rfl rfl) ?_)
           refine L.take rfl (L.callVJ (fun v D => ∃ (gb43 : Bool), v = .bool gb43 ∧ D = Cls w [] [.obj b7 [.int .i64 x6.Tx, .int .i64 x6.Kind, .int .i64 x6.Item] 61, .obj b2 [gv6, gv8, .slice none 0 0] 82, .obj b1 [.slice none 0 0, .slice none 0 0, .slice none 0 0] 82, .sl gv6 61 3 (gl7.map TOp.row), .sl gv8 3 1 (gl9.map I)] ∧ m45_quirref_Stamp_K35 x6 a1 gl7 gl9 gx5 go1 gb43 = some r) rfl en148 rfl rfl Try.func148 rfl rfl rfl ?_ ?_)
           ·
            refine W.seq (W.region (L.box rfl rfl ?_))
            intro b54
            refine L.box rfl rfl ?_
            intro b55
            refine L.y rfl (Y.assign rfl) ?_
            refine L.nil (E.thenN (W.seq (W.region (L.y rfl (Y.fieldP fd82_0 rfl) ?_))))
            refine L.y rfl (Y.loadP (i := 3) ag57 rfl rfl rfl) ?_
            refine L.y rfl (Y.func rfl) ?_
            refine L.callJ (fun v D => ∃ (gb44 : Bool), v = .bool gb44 ∧ D = Cls w [] [.obj b55 [.int .i64 1] 3, .obj b54 [.int .i64 x6.Tx, .int .i64 x6.Kind, .int .i64 x6.Item] 61, .obj b7 [.int .i64 x6.Tx, .int .i64 x6.Kind, .int .i64 x6.Item] 61, .obj b2 [gv6, gv8, .slice none 0 0] 82, .obj b1 [.slice none 0 0, .slice none 0 0, .slice none 0 0] 82, .sl gv6 61 3 (gl7.map TOp.row), .sl gv8 3 1 (gl9.map I)] ∧ m45_quirref_Stamp_K36 x6 a1 gl7 gl9 gx5 go1 gb44 = some r) rfl en149 rfl Try.func149 rfl rfl rfl ?_ ?_
            ·
             refine W.seq (W.region (L.y rfl (Y.assign rfl) ?_))
             refine L.nil (E.thenN (W.seq (W.region (L.y rfl (Y.move rfl) ?_))))
             refine L.y rfl (Y.move rfl) ?_
             refine L.callJ (fun v D => ∃ (gx45 : Int), v = .int .i64 gx45 ∧ D = Cls w [] [.obj b55 [.int .i64 1] 3, .obj b54 [.int .i64 x6.Tx, .int .i64 x6.Kind, .int .i64 x6.Item] 61, .obj b7 [.int .i64 x6.Tx, .int .i64 x6.Kind, .int .i64 x6.Item] 61, .obj b2 [gv6, gv8, .slice none 0 0] 82, .obj b1 [.slice none 0 0, .slice none 0 0, .slice none 0 0] 82, .sl gv6 61 3 (gl7.map TOp.row), .sl gv8 3 1 (gl9.map I)] ∧ m45_quirref_Stamp_K37 x6 a1 gl7 gl9 gx5 go1 gx45 = some r) rfl en249 rfl Try.func249 rfl rfl rfl ?_ ?_
             ·
              refine W.seq (W.region (L.y rfl (Y.assign rfl) ?_))
              refine L.nil (E.thenN (W.seqJ (fun gs D => gs = [] ∧ D = Cls w [] [.obj b55 [.int .i64 1] 3, .obj b54 [.int .i64 x6.Tx, .int .i64 x6.Kind, .int .i64 x6.Item] 61, .obj b7 [.int .i64 x6.Tx, .int .i64 x6.Kind, .int .i64 x6.Item] 61, .obj b2 [gv6, gv8, .slice none 0 0] 82, .obj b1 [.slice none 0 0, .slice none 0 0, .slice none 0 0] 82, .sl gv6 61 3 (gl7.map TOp.row), .sl gv8 3 1 (gl9.map I)] ∧ m45_quirref_Stamp_K38 x6 a1 gl7 gl9 gx5 go1 = some r) ?_ ?_))
              ·
               refine W.seq (W.region (L.y rfl (Y.move rfl) ?_))
               refine L.y rfl (Y.lenM (g := TOp.row) (l := gl7) Try.underlying57 rfl (fun w hw => As.at_ (hw.get (i := 5) rfl))) ?_
               refine L.y rfl (Y.move rfl) ?_
               refine L.nil (E.thenN (W.block (W.loopJ (fun m gs D => ∃ (gx46 : Int), gs = [(0, gv6), (1, .func (.func 150) #[] #[pt b55 0, pt b54 0]), (7, .int .i64 (gl7.length : Int)), (8, .int .i64 gx46)] ∧ D = Cls w [] [.obj b55 [.int .i64 1] 3, .obj b54 [.int .i64 x6.Tx, .int .i64 x6.Kind, .int .i64 x6.Item] 61, .obj b7 [.int .i64 x6.Tx, .int .i64 x6.Kind, .int .i64 x6.Item] 61, .obj b2 [gv6, gv8, .slice none 0 0] 82, .obj b1 [.slice none 0 0, .slice none 0 0, .slice none 0 0] 82, .sl gv6 61 3 (gl7.map TOp.row), .sl gv8 3 1 (gl9.map I)] ∧ m45_quirref_Stamp_L6 gl7 x6 a1 gl9 gx5 go1 m gx46 = some r) ⟨0, rfl, rfl, h⟩ ⟨rfl, rfl, rfl, rfl, trivial⟩ (fun _ hw => hw) ?_)))
               rintro m _ _ ⟨gx46, rfl, rfl, h⟩
               rcases m with _ | m
               · rw [m45_quirref_Stamp_L6] at h; cases h
               rw [m45_quirref_Stamp_L6] at h
               generalize hg6 : m45_quirref_Stamp_L6 gl7 x6 a1 gl9 gx5 go1 m = go6 at h
               rw [m45_quirref_Stamp_L6B] at h
               refine W.seq (W.region (L.ite h rfl (Y.lss rfl rfl) (fun c56 h => ?_) (fun c56 h => ?_)))
               ·
                refine L.nil (E.thenN (W.seq (W.condT rfl ?_)))
                refine W.skip (E.thenN (W.seq (W.block (W.seq (W.region (L.y rfl (Y.move rfl) ?_))))))
                refine L.y rfl (Y.assign rfl) ?_
                refine L.nil (E.thenN (W.seq (W.region (L.y rfl (Y.move rfl) ?_))))
                refine L.y rfl (Y.move rfl) ?_
                refine L.y rfl (Y.move rfl) ?_
                refine L.m (V := fun _ => el gv6 (gx46.toNat * 3)) h rfl (Y.indexM (g := TOp.row) (l := gl7) Try.underlying57 sz61 rfl rfl (fun w hw => As.at_ (hw.get (i := 5) rfl))) (fun x57 ex57 h => ?_)
                refine L.y rfl (Y.loadEN (r := [.int .i64 x57.Tx, .int .i64 x57.Kind, .int .i64 x57.Item]) ag61 sz61 rfl (fun w hw => As.at_ (hw.get (i := 5) rfl)) (idx_map ex57) rfl) ?_
                refine L.callVJ (fun v D => ∃ (gb47 : Bool), v = .bool gb47 ∧ D = Cls w [] [.obj b55 [.int .i64 1] 3, .obj b54 [.int .i64 x6.Tx, .int .i64 x6.Kind, .int .i64 x6.Item] 61, .obj b7 [.int .i64 x6.Tx, .int .i64 x6.Kind, .int .i64 x6.Item] 61, .obj b2 [gv6, gv8, .slice none 0 0] 82, .obj b1 [.slice none 0 0, .slice none 0 0, .slice none 0 0] 82, .sl gv6 61 3 (gl7.map TOp.row), .sl gv8 3 1 (gl9.map I)] ∧ m45_quirref_Stamp_K39 x6 a1 gl7 gl9 gx5 go1 gx46 go6 gb47 = some r) rfl en150 rfl rfl Try.func150 rfl rfl rfl ?_ ?_
                ·
                 refine W.seq (W.region (L.box rfl rfl ?_))
                 intro b59
                 refine L.y rfl (Y.assign rfl) ?_
                 refine L.nil (E.thenN (W.seq (W.region (L.cutJ 11 (fun gs D => ∃ (gb48 : Bool), gs = [(2, pt b54 0), (3, pt b59 0), (15, .bool gb48)] ∧ D = Cls w [] [.obj b59 [.int .i64 x57.Tx, .int .i64 x57.Kind, .int .i64 x57.Item] 61, .obj b55 [.int .i64 1] 3, .obj b54 [.int .i64 x6.Tx, .int .i64 x6.Kind, .int .i64 x6.Item] 61, .obj b7 [.int .i64 x6.Tx, .int .i64 x6.Kind, .int .i64 x6.Item] 61, .obj b2 [gv6, gv8, .slice none 0 0] 82, .obj b1 [.slice none 0 0, .slice none 0 0, .slice none 0 0] 82, .sl gv6 61 3 (gl7.map TOp.row), .sl gv8 3 1 (gl9.map I)] ∧ m45_quirref_Stamp_K40 x6 a1 gl7 gl9 gx5 go1 gx46 go6 x57 gb48 = some r) ?_ ?_))))
                 ·
                  refine L.y rfl (Y.fieldP fd61_1 rfl) ?_
                  refine L.y rfl (Y.loadP (i := 0) ag3 rfl rfl rfl) ?_
                  refine L.y rfl (Y.loadP (i := 1) ag3 rfl rfl rfl) ?_
                  refine L.ite h rfl (Y.eql rfl rfl) (fun c60 h => ?_) (fun c60 h => ?_)
                  ·
                   refine L.y rfl (Y.move rfl) ?_
                   refine L.take rfl (L.y rfl (Y.fieldP fd61_2 rfl) ?_)
                   refine L.take rfl (L.y rfl (Y.loadP (i := 0) ag3 rfl rfl rfl) ?_)
                   refine L.take rfl (L.y rfl (Y.fieldP fd61_2 rfl) ?_)
                   refine L.take rfl (L.y rfl (Y.loadP (i := 2) ag3 rfl rfl rfl) ?_)
                   refine L.take rfl (L.ite h rfl (Y.eql rfl rfl) (fun c61 h => ?_) (fun c61 h => ?_))
                   ·
                    refine L.y rfl (Y.pickT rfl rfl) ?_
                    exact L.nil (E.joinJ ⟨true, rfl, rfl, h⟩ ⟨rfl, rfl, rfl, trivial⟩ (fun _ hw => hw))
                   ·
                    refine L.y rfl (Y.pickT rfl rfl) ?_
                    exact L.nil (E.joinJ ⟨false, rfl, rfl, h⟩ ⟨rfl, rfl, rfl, trivial⟩ (fun _ hw => hw))
                  ·
                   refine L.y rfl (Y.move rfl) ?_
                   refine L.pass rfl rfl (by nofun) ?_
                   refine L.pass rfl rfl (by nofun) ?_
                   refine L.pass rfl rfl (by nofun) ?_
                   refine L.pass rfl rfl (by nofun) ?_
                   refine L.pass rfl rfl (by nofun) ?_
                   refine L.y rfl (Y.pickF rfl rfl) ?_
                   exact L.nil (E.joinJ ⟨false, rfl, rfl, h⟩ ⟨rfl, rfl, rfl, trivial⟩ (fun _ hw => hw))
                 ·
                  rintro _ _ ⟨gb48, rfl, rfl, h⟩
                  rw [m45_quirref_Stamp_K40] at h
                  rcases gb48 with _ | _
                  ·
                   replace h := iteF h
                   refine L.y rfl (Y.move rfl) ?_
                   refine L.pass rfl rfl (by nofun) ?_
                   refine L.pass rfl rfl (by nofun) ?_
                   refine L.pass rfl rfl (by nofun) ?_
                   refine L.pass rfl rfl (by nofun) ?_
                   refine L.pass rfl rfl (by nofun) ?_
                   refine L.y rfl (Y.pickF rfl rfl) ?_
                   refine L.y rfl (Y.assign rfl) ?_
                   refine L.nil (E.thenN (W.ret (E.ret1 rfl rfl (fun w1 hw => ?_))))
                   exact ⟨_, _, rfl, ⟨false, rfl, rfl, h⟩, hw.sel [1, 2, 3, 4, 5, 6, 7] (by decide) rfl⟩
                  ·
                   replace h := iteT h
                   refine L.y rfl (Y.move rfl) ?_
                   refine L.take rfl (L.y rfl (Y.fieldP fd61_0 rfl) ?_)
                   refine L.take rfl (L.y rfl (Y.loadP (i := 0) ag3 rfl rfl rfl) ?_)
                   refine L.take rfl (L.y rfl (Y.fieldP fd61_0 rfl) ?_)
                   refine L.take rfl (L.y rfl (Y.loadP (i := 2) ag3 rfl rfl rfl) ?_)
                   refine L.take rfl (L.y rfl (Y.gtr rfl rfl) ?_)
                   refine L.y rfl (Y.pickT rfl rfl) ?_
                   refine L.y rfl (Y.assign rfl) ?_
                   refine L.nil (E.thenN (W.ret (E.ret1 rfl rfl (fun w1 hw => ?_))))
                   exact ⟨_, _, rfl, ⟨decide (x6.Tx < x57.Tx), rfl, rfl, h⟩, hw.sel [1, 2, 3, 4, 5, 6, 7] (by decide) rfl⟩
                ·
                 rintro _ _ ⟨gb47, rfl, rfl, h⟩
                 rw [m45_quirref_Stamp_K39] at h
                 rcases gb47 with _ | _
                 ·
                  replace h := iteF h
                  refine L.nil (E.thenN (W.condF rfl ?_))
                  refine W.skip (E.blockN (E.thenN (W.region (L.m (V := fun x58 => .int .i64 x58) h rfl (Y.addM rfl rfl) (fun x58 ex58 h => ?_)))))
                  refine L.y rfl (Y.move rfl) ?_
                  exact L.nil (E.againJ ⟨x58, rfl, rfl, by rw [hg6]; exact h⟩ (Nat.lt_succ_self _) ⟨rfl, rfl, rfl, rfl, trivial⟩ (fun _ hw => hw))
                 ·
                  replace h := iteT h
                  refine L.nil (E.thenN (W.condT rfl ?_))
                  refine W.seq (W.region (L.y rfl (Y.move rfl) ?_))
                  refine L.y rfl (Y.assign rfl) ?_
                  refine L.nil (E.thenN (W.ret (E.blockR (E.thenR (E.KLR (E.blockR (E.KSR (E.ret1 rfl rfl (fun w1 hw => ?_)))))))))
                  exact ⟨_, _, rfl, ⟨gx46, rfl, rfl, h⟩, hw⟩
               ·
                refine L.nil (E.thenN (W.seq (W.condF rfl ?_)))
                exact W.exit (E.thenX (E.KLX (E.blockX (E.joinJ ⟨rfl, rfl, h⟩ trivial (fun _ hw => hw)))))
              ·
               rintro _ _ ⟨rfl, rfl, h⟩
               rw [m45_quirref_Stamp_K38] at h
               refine W.seq (W.region (L.y rfl (Y.assign rfl) ?_))
               refine L.nil (E.thenN (W.ret (E.ret1 rfl rfl (fun w1 hw => ?_))))
               exact ⟨_, _, rfl, ⟨(-1), rfl, rfl, h⟩, hw⟩
             ·
              rintro _ _ ⟨gx45, rfl, rfl, h⟩
              rw [m45_quirref_Stamp_K37] at h
              refine L.y rfl (Y.geq rfl rfl) ?_
              refine L.y rfl (Y.assign rfl) ?_
              refine L.nil (E.thenN (W.ret (E.ret1 rfl rfl (fun w1 hw => ?_))))
              exact ⟨_, _, rfl, ⟨decide (0 ≤ gx45), rfl, rfl, h⟩, hw⟩
            ·
             rintro _ _ ⟨gb44, rfl, rfl, h⟩
             rw [m45_quirref_Stamp_K36] at h
             refine L.y rfl (Y.assign rfl) ?_
             refine L.nil (E.thenN (W.ret (E.ret1 rfl rfl (fun w1 hw => ?_))))
             exact ⟨_, _, rfl, ⟨gb44, rfl, rfl, h⟩, hw.sel [2, 3, 4, 5, 6] (by decide) rfl⟩
           ·
            rintro _ _ ⟨gb43, rfl, rfl, h⟩
            rw [m45_quirref_Stamp_K35] at h
            rcases gb43 with _ | _
            ·
             replace h := iteF h
             refine L.take rfl (L.y rfl (Y.pickT rfl rfl) ?_)
             exact L.nil (E.joinJ ⟨false, rfl, rfl, h⟩ ⟨rfl, rfl, rfl, rfl, rfl, rfl, rfl, rfl, rfl, rfl, trivial⟩ (fun _ hw => hw))
            ·
             replace h := iteT h
             refine L.take rfl (L.y rfl (Y.pickT rfl rfl) ?_)
             exact L.nil (E.joinJ ⟨true, rfl, rfl, h⟩ ⟨rfl, rfl, rfl, rfl, rfl, rfl, rfl, rfl, rfl, rfl, trivial⟩ (fun _ hw => hw))
          ·
           refine L.take rfl (L.y rfl (Y.move rfl) ?_)
           refine L.pass rfl rfl (by nofun) ?_
           refine L.pass rfl rfl (by nofun) ?_
           refine L.pass rfl rfl (by nofun) ?_
           refine L.take rfl (L.y rfl (Y.pickF rfl rfl) ?_)
           exact L.nil (E.joinJ ⟨false, rfl, rfl, h⟩ ⟨rfl, rfl, rfl, rfl, rfl, rfl, rfl, rfl, rfl, rfl, trivial⟩ (fun _ hw => hw))
         ·
          rintro _ _ ⟨gb42, rfl, rfl, h⟩
          rw [m45_quirref_Stamp_K34] at h
          rcases gb42 with _ | _
          ·
           replace h := iteF h
           refine L.y rfl (Y.pickF rfl rfl) ?_
           refine L.y rfl (Y.assign rfl) ?_
           exact L.nil (E.joinJ ⟨false, rfl, rfl, h⟩ ⟨rfl, rfl, rfl, rfl, rfl, rfl, rfl, rfl, rfl, trivial⟩ (fun _ hw => hw))
          ·
           replace h := iteT h
           refine L.y rfl (Y.pickF rfl rfl) ?_
           refine L.y rfl (Y.assign rfl) ?_
           exact L.nil (E.joinJ ⟨true, rfl, rfl, h⟩ ⟨rfl, rfl, rfl, rfl, rfl, rfl, rfl, rfl, rfl, trivial⟩ (fun _ hw => hw))
        ·
         replace h := iteT h
         refine L.y rfl (Y.move rfl) ?_
         refine L.pass rfl rfl (by nofun) ?_
         refine L.pass rfl rfl (by nofun) ?_
         refine L.pass rfl rfl (by nofun) ?_
         refine L.pass rfl rfl (by nofun) ?_
         refine L.pass rfl rfl (by nofun) ?_
         refine L.pass rfl rfl (by nofun) ?_
         refine L.pass rfl rfl (by nofun) ?_
         refine L.pass rfl rfl (by nofun) ?_
         refine L.y rfl (Y.pickT rfl rfl) ?_
         refine L.y rfl (Y.assign rfl) ?_
         exact L.nil (E.joinJ ⟨true, rfl, rfl, h⟩ ⟨rfl, rfl, rfl, rfl, rfl, rfl, rfl, rfl, rfl, trivial⟩ (fun _ hw => hw))
      ·
       rintro _ _ ⟨gb14, rfl, rfl, h⟩
       rw [m45_quirref_Stamp_K4] at h
       rcases gb14 with _ | _
       ·
        replace h := iteF h
        refine W.seqJ (fun gs D => gs = [(1, .bool a1), (4, pt b1 0), (5, pt b2 0), (6, .func (.func 148) #[] #[pt b2 0]), (8, pt b7 0), (9, .bool false), (11, u0), (12, .int .i64 (a0.length : Int)), (13, .int .i64 gx5)] ∧ D = Cls w [] [.obj b7 [.int .i64 x6.Tx, .int .i64 x6.Kind, .int .i64 x6.Item] 61, .obj b2 [gv6, gv8, .slice none 0 0] 82, .obj b1 [.slice none 0 0, .slice none 0 0, .slice none 0 0] 82, .sl gv6 61 3 (gl7.map TOp.row), .sl gv8 3 1 (gl9.map I)] ∧ m45_quirref_Stamp_K5 gl7 x6 gx5 go1 gl9 = some r) ?_ ?_
        ·
         refine W.seq (W.region (L.cutJ 6 (fun gs D => ∃ (gb15 : Bool), gs = [(1, .bool a1), (4, pt b1 0), (5, pt b2 0), (6, .func (.func 148) #[] #[pt b2 0]), (8, pt b7 0), (9, .bool false), (11, u0), (12, .int .i64 (a0.length : Int)), (13, .int .i64 gx5), (45, .bool gb15)] ∧ D = Cls w [] [.obj b7 [.int .i64 x6.Tx, .int .i64 x6.Kind, .int .i64 x6.Item] 61, .obj b2 [gv6, gv8, .slice none 0 0] 82, .obj b1 [.slice none 0 0, .slice none 0 0, .slice none 0 0] 82, .sl gv6 61 3 (gl7.map TOp.row), .sl gv8 3 1 (gl9.map I)] ∧ m45_quirref_Stamp_K6 gl7 x6 gx5 go1 gl9 gb15 = some r) ?_ ?_))
         ·
          refine L.y rfl (Y.fieldP fd61_1 rfl) ?_
          refine L.y rfl (Y.loadP (i := 0) ag3 rfl rfl rfl) ?_
          refine L.ite h rfl (Y.eql rfl rfl) (fun c27 h => ?_) (fun c27 h => ?_)
          ·
           refine L.y rfl (Y.move rfl) ?_
           refine L.take rfl (L.iteB h rfl (Y.move rfl) (fun c28 h => ?_) (fun c28 h => ?_))
           ·
            refine L.y rfl (Y.pickT rfl rfl) ?_
            exact L.nil (E.joinJ ⟨true, rfl, rfl, h⟩ ⟨rfl, rfl, rfl, rfl, rfl, rfl, rfl, rfl, rfl, rfl, trivial⟩ (fun _ hw => hw))
           ·
            refine L.y rfl (Y.pickT rfl rfl) ?_
            exact L.nil (E.joinJ ⟨false, rfl, rfl, h⟩ ⟨rfl, rfl, rfl, rfl, rfl, rfl, rfl, rfl, rfl, rfl, trivial⟩ (fun _ hw => hw))
          ·
           refine L.y rfl (Y.move rfl) ?_
           refine L.pass rfl rfl (by nofun) ?_
           refine L.y rfl (Y.pickF rfl rfl) ?_
           exact L.nil (E.joinJ ⟨false, rfl, rfl, h⟩ ⟨rfl, rfl, rfl, rfl, rfl, rfl, rfl, rfl, rfl, rfl, trivial⟩ (fun _ hw => hw))
         ·
          rintro _ _ ⟨gb15, rfl, rfl, h⟩
          rw [m45_quirref_Stamp_K6] at h
          rcases gb15 with _ | _
          ·
           replace h := iteF h
           refine L.y rfl (Y.move rfl) ?_
           refine L.pass rfl rfl (by nofun) ?_
           refine L.pass rfl rfl (by nofun) ?_
           refine L.pass rfl rfl (by nofun) ?_
           refine L.pass rfl rfl (by nofun) ?_
           refine L.y rfl (Y.pickF rfl rfl) ?_
           refine L.y rfl (Y.move rfl) ?_
           refine L.pass rfl rfl (by nofun) ?_
           refine L.pass rfl rfl (by nofun) ?_
           refine L.pass rfl rfl (by nofun) ?_
           refine L.y rfl (Y.pickF rfl rfl) ?_
           refine L.nil (E.thenN (W.condF rfl ?_))
           exact W.skip (E.joinJ ⟨rfl, rfl, h⟩ ⟨rfl, rfl, rfl, rfl, rfl, rfl, rfl, rfl, rfl, trivial⟩ (fun _ hw => hw))
          ·
           replace h := iteT h
           refine L.y rfl (Y.move rfl) ?_
           refine L.take rfl (L.y rfl (Y.move rfl) ?_)
           refine L.take rfl (L.y rfl (Y.loadPW (i := 0) ag61 sz61 rfl rfl rfl) ?_)
           refine L.take rfl (L.callVJ (fun v D => ∃ (gb16 : Bool), v = .bool gb16 ∧ D = Cls w [] [.obj b7 [.int .i64 x6.Tx, .int .i64 x6.Kind, .int .i64 x6.Item] 61, .obj b2 [gv6, gv8, .slice none 0 0] 82, .obj b1 [.slice none 0 0, .slice none 0 0, .slice none 0 0] 82, .sl gv6 61 3 (gl7.map TOp.row), .sl gv8 3 1 (gl9.map I)] ∧ m45_quirref_Stamp_K7 gl7 x6 gx5 go1 gl9 gb16 = some r) rfl en148 rfl rfl Try.func148 rfl rfl rfl ?_ ?_)
           ·
            refine W.seq (W.region (L.box rfl rfl ?_))
            intro b19
            refine L.box rfl rfl ?_
            intro b20
            refine L.y rfl (Y.assign rfl) ?_
            refine L.nil (E.thenN (W.seq (W.region (L.y rfl (Y.fieldP fd82_0 rfl) ?_))))
            refine L.y rfl (Y.loadP (i := 3) ag57 rfl rfl rfl) ?_
            refine L.y rfl (Y.func rfl) ?_
            refine L.callJ (fun v D => ∃ (gb23 : Bool), v = .bool gb23 ∧ D = Cls w [] [.obj b20 [.int .i64 1] 3, .obj b19 [.int .i64 x6.Tx, .int .i64 x6.Kind, .int .i64 x6.Item] 61, .obj b7 [.int .i64 x6.Tx, .int .i64 x6.Kind, .int .i64 x6.Item] 61, .obj b2 [gv6, gv8, .slice none 0 0] 82, .obj b1 [.slice none 0 0, .slice none 0 0, .slice none 0 0] 82, .sl gv6 61 3 (gl7.map TOp.row), .sl gv8 3 1 (gl9.map I)] ∧ m45_quirref_Stamp_K14 gl7 x6 gx5 go1 gl9 gb23 = some r) rfl en149 rfl Try.func149 rfl rfl rfl ?_ ?_
            ·
             refine W.seq (W.region (L.y rfl (Y.assign rfl) ?_))
             refine L.nil (E.thenN (W.seq (W.region (L.y rfl (Y.move rfl) ?_))))
             refine L.y rfl (Y.move rfl) ?_
             refine L.callJ (fun v D => ∃ (gx24 : Int), v = .int .i64 gx24 ∧ D = Cls w [] [.obj b20 [.int .i64 1] 3, .obj b19 [.int .i64 x6.Tx, .int .i64 x6.Kind, .int .i64 x6.Item] 61, .obj b7 [.int .i64 x6.Tx, .int .i64 x6.Kind, .int .i64 x6.Item] 61, .obj b2 [gv6, gv8, .slice none 0 0] 82, .obj b1 [.slice none 0 0, .slice none 0 0, .slice none 0 0] 82, .sl gv6 61 3 (gl7.map TOp.row), .sl gv8 3 1 (gl9.map I)] ∧ m45_quirref_Stamp_K15 gl7 x6 gx5 go1 gl9 gx24 = some r) rfl en249 rfl Try.func249 rfl rfl rfl ?_ ?_
             ·
              refine W.seq (W.region (L.y rfl (Y.assign rfl) ?_))
              refine L.nil (E.thenN (W.seqJ (fun gs D => gs = [] ∧ D = Cls w [] [.obj b20 [.int .i64 1] 3, .obj b19 [.int .i64 x6.Tx, .int .i64 x6.Kind, .int .i64 x6.Item] 61, .obj b7 [.int .i64 x6.Tx, .int .i64 x6.Kind, .int .i64 x6.Item] 61, .obj b2 [gv6, gv8, .slice none 0 0] 82, .obj b1 [.slice none 0 0, .slice none 0 0, .slice none 0 0] 82, .sl gv6 61 3 (gl7.map TOp.row), .sl gv8 3 1 (gl9.map I)] ∧ m45_quirref_Stamp_K16 gl7 x6 gx5 go1 gl9 = some r) ?_ ?_))
              ·
               refine W.seq (W.region (L.y rfl (Y.move rfl) ?_))
               refine L.y rfl (Y.lenM (g := TOp.row) (l := gl7) Try.underlying57 rfl (fun w hw => As.at_ (hw.get (i := 5) rfl))) ?_
               refine L.y rfl (Y.move rfl) ?_
               refine L.nil (E.thenN (W.block (W.loopJ (fun m gs D => ∃ (gx25 : Int), gs = [(0, gv6), (1, .func (.func 150) #[] #[pt b20 0, pt b19 0]), (7, .int .i64 (gl7.length : Int)), (8, .int .i64 gx25)] ∧ D = Cls w [] [.obj b20 [.int .i64 1] 3, .obj b19 [.int .i64 x6.Tx, .int .i64 x6.Kind, .int .i64 x6.Item] 61, .obj b7 [.int .i64 x6.Tx, .int .i64 x6.Kind, .int .i64 x6.Item] 61, .obj b2 [gv6, gv8, .slice none 0 0] 82, .obj b1 [.slice none 0 0, .slice none 0 0, .slice none 0 0] 82, .sl gv6 61 3 (gl7.map TOp.row), .sl gv8 3 1 (gl9.map I)] ∧ m45_quirref_Stamp_L3 gl7 x6 gx5 go1 gl9 m gx25 = some r) ⟨0, rfl, rfl, h⟩ ⟨rfl, rfl, rfl, rfl, trivial⟩ (fun _ hw => hw) ?_)))
               rintro m _ _ ⟨gx25, rfl, rfl, h⟩
               rcases m with _ | m
               · rw [m45_quirref_Stamp_L3] at h; cases h
               rw [m45_quirref_Stamp_L3] at h
               generalize hg3 : m45_quirref_Stamp_L3 gl7 x6 gx5 go1 gl9 m = go3 at h
               rw [m45_quirref_Stamp_L3B] at h
               refine W.seq (W.region (L.ite h rfl (Y.lss rfl rfl) (fun c21 h => ?_) (fun c21 h => ?_)))
               ·
                refine L.nil (E.thenN (W.seq (W.condT rfl ?_)))
                refine W.skip (E.thenN (W.seq (W.block (W.seq (W.region (L.y rfl (Y.move rfl) ?_))))))
                refine L.y rfl (Y.assign rfl) ?_
                refine L.nil (E.thenN (W.seq (W.region (L.y rfl (Y.move rfl) ?_))))
                refine L.y rfl (Y.move rfl) ?_
                refine L.y rfl (Y.move rfl) ?_
                refine L.m (V := fun _ => el gv6 (gx25.toNat * 3)) h rfl (Y.indexM (g := TOp.row) (l := gl7) Try.underlying57 sz61 rfl rfl (fun w hw => As.at_ (hw.get (i := 5) rfl))) (fun x22 ex22 h => ?_)
                refine L.y rfl (Y.loadEN (r := [.int .i64 x22.Tx, .int .i64 x22.Kind, .int .i64 x22.Item]) ag61 sz61 rfl (fun w hw => As.at_ (hw.get (i := 5) rfl)) (idx_map ex22) rfl) ?_
                refine L.callVJ (fun v D => ∃ (gb26 : Bool), v = .bool gb26 ∧ D = Cls w [] [.obj b20 [.int .i64 1] 3, .obj b19 [.int .i64 x6.Tx, .int .i64 x6.Kind, .int .i64 x6.Item] 61, .obj b7 [.int .i64 x6.Tx, .int .i64 x6.Kind, .int .i64 x6.Item] 61, .obj b2 [gv6, gv8, .slice none 0 0] 82, .obj b1 [.slice none 0 0, .slice none 0 0, .slice none 0 0] 82, .sl gv6 61 3 (gl7.map TOp.row), .sl gv8 3 1 (gl9.map I)] ∧ m45_quirref_Stamp_K17 gl7 x6 gx5 go1 gl9 gx25 go3 gb26 = some r) rfl en150 rfl rfl Try.func150 rfl rfl rfl ?_ ?_
                ·
                 refine W.seq (W.region (L.box rfl rfl ?_))
                 intro b24
                 refine L.y rfl (Y.assign rfl) ?_
                 refine L.nil (E.thenN (W.seq (W.region (L.cutJ 11 (fun gs D => ∃ (gb27 : Bool), gs = [(2, pt b19 0), (3, pt b24 0), (15, .bool gb27)] ∧ D = Cls w [] [.obj b24 [.int .i64 x22.Tx, .int .i64 x22.Kind, .int .i64 x22.Item] 61, .obj b20 [.int .i64 1] 3, .obj b19 [.int .i64 x6.Tx, .int .i64 x6.Kind, .int .i64 x6.Item] 61, .obj b7 [.int .i64 x6.Tx, .int .i64 x6.Kind, .int .i64 x6.Item] 61, .obj b2 [gv6, gv8, .slice none 0 0] 82, .obj b1 [.slice none 0 0, .slice none 0 0, .slice none 0 0] 82, .sl gv6 61 3 (gl7.map TOp.row), .sl gv8 3 1 (gl9.map I)] ∧ m45_quirref_Stamp_K18 gl7 x6 gx5 go1 gl9 gx25 go3 x22 gb27 = some r) ?_ ?_))))
                 ·
                  refine L.y rfl (Y.fieldP fd61_1 rfl) ?_
                  refine L.y rfl (Y.loadP (i := 0) ag3 rfl rfl rfl) ?_
                  refine L.y rfl (Y.loadP (i := 1) ag3 rfl rfl rfl) ?_
                  refine L.ite h rfl (Y.eql rfl rfl) (fun c25 h => ?_) (fun c25 h => ?_)
                  ·
                   refine L.y rfl (Y.move rfl) ?_
                   refine L.take rfl (L.y rfl (Y.fieldP fd61_2 rfl) ?_)
                   refine L.take rfl (L.y rfl (Y.loadP (i := 0) ag3 rfl rfl rfl) ?_)
                   refine L.take rfl (L.y rfl (Y.fieldP fd61_2 rfl) ?_)
                   refine L.take rfl (L.y rfl (Y.loadP (i := 2) ag3 rfl rfl rfl) ?_)
                   refine L.take rfl (L.ite h rfl (Y.eql rfl rfl) (fun c26 h => ?_) (fun c26 h => ?_))
                   ·
                    refine L.y rfl (Y.pickT rfl rfl) ?_
                    exact L.nil (E.joinJ ⟨true, rfl, rfl, h⟩ ⟨rfl, rfl, rfl, trivial⟩ (fun _ hw => hw))
                   ·
                    refine L.y rfl (Y.pickT rfl rfl) ?_
                    exact L.nil (E.joinJ ⟨false, rfl, rfl, h⟩ ⟨rfl, rfl, rfl, trivial⟩ (fun _ hw => hw))
                  ·
                   refine L.y rfl (Y.move rfl) ?_
                   refine L.pass rfl rfl (by nofun) ?_
                   refine L.pass rfl rfl (by nofun) ?_
                   refine L.pass rfl rfl (by nofun) ?_
                   refine L.pass rfl rfl (by nofun) ?_
                   refine L.pass rfl rfl (by nofun) ?_
                   refine L.y rfl (Y.pickF rfl rfl) ?_
                   exact L.nil (E.joinJ ⟨false, rfl, rfl, h⟩ ⟨rfl, rfl, rfl, trivial⟩ (fun _ hw => hw))
                 ·
                  rintro _ _ ⟨gb27, rfl, rfl, h⟩
                  rw [m45_quirref_Stamp_K18] at h
                  rcases gb27 with _ | _
                  ·
                   replace h := iteF h
                   refine L.y rfl (Y.move rfl) ?_
                   refine L.pass rfl rfl (by nofun) ?_
                   refine L.pass rfl rfl (by nofun) ?_
                   refine L.pass rfl rfl (by nofun) ?_
                   refine L.pass rfl rfl (by nofun) ?_
                   refine L.pass rfl rfl (by nofun) ?_
                   refine L.y rfl (Y.pickF rfl rfl) ?_
                   refine L.y rfl (Y.assign rfl) ?_
                   refine L.nil (E.thenN (W.ret (E.ret1 rfl rfl (fun w1 hw => ?_))))
                   exact ⟨_, _, rfl, ⟨false, rfl, rfl, h⟩, hw.sel [1, 2, 3, 4, 5, 6, 7] (by decide) rfl⟩
                  ·
                   replace h := iteT h
                   refine L.y rfl (Y.move rfl) ?_
                   refine L.take rfl (L.y rfl (Y.fieldP fd61_0 rfl) ?_)
                   refine L.take rfl (L.y rfl (Y.loadP (i := 0) ag3 rfl rfl rfl) ?_)
                   refine L.take rfl (L.y rfl (Y.fieldP fd61_0 rfl) ?_)
                   refine L.take rfl (L.y rfl (Y.loadP (i := 2) ag3 rfl rfl rfl) ?_)
                   refine L.take rfl (L.y rfl (Y.gtr rfl rfl) ?_)
                   refine L.y rfl (Y.pickT rfl rfl) ?_
                   refine L.y rfl (Y.assign rfl) ?_
                   refine L.nil (E.thenN (W.ret (E.ret1 rfl rfl (fun w1 hw => ?_))))
                   exact ⟨_, _, rfl, ⟨decide (x6.Tx < x22.Tx), rfl, rfl, h⟩, hw.sel [1, 2, 3, 4, 5, 6, 7] (by decide) rfl⟩
                ·
                 rintro _ _ ⟨gb26, rfl, rfl, h⟩
                 rw [m45_quirref_Stamp_K17] at h
                 rcases gb26 with _ | _
                 ·
                  replace h := iteF h
                  refine L.nil (E.thenN (W.condF rfl ?_))
                  refine W.skip (E.blockN (E.thenN (W.region (L.m (V := fun x23 => .int .i64 x23) h rfl (Y.addM rfl rfl) (fun x23 ex23 h => ?_)))))
                  refine L.y rfl (Y.move rfl) ?_
                  exact L.nil (E.againJ ⟨x23, rfl, rfl, by rw [hg3]; exact h⟩ (Nat.lt_succ_self _) ⟨rfl, rfl, rfl, rfl, trivial⟩ (fun _ hw => hw))
                 ·
                  replace h := iteT h
                  refine L.nil (E.thenN (W.condT rfl ?_))
                  refine W.seq (W.region (L.y rfl (Y.move rfl) ?_))
                  refine L.y rfl (Y.assign rfl) ?_
                  refine L.nil (E.thenN (W.ret (E.blockR (E.thenR (E.KLR (E.blockR (E.KSR (E.ret1 rfl rfl (fun w1 hw => ?_)))))))))
                  exact ⟨_, _, rfl, ⟨gx25, rfl, rfl, h⟩, hw⟩
               ·
                refine L.nil (E.thenN (W.seq (W.condF rfl ?_)))
                exact W.exit (E.thenX (E.KLX (E.blockX (E.joinJ ⟨rfl, rfl, h⟩ trivial (fun _ hw => hw)))))
              ·
               rintro _ _ ⟨rfl, rfl, h⟩
               rw [m45_quirref_Stamp_K16] at h
               refine W.seq (W.region (L.y rfl (Y.assign rfl) ?_))
               refine L.nil (E.thenN (W.ret (E.ret1 rfl rfl (fun w1 hw => ?_))))
               exact ⟨_, _, rfl, ⟨(-1), rfl, rfl, h⟩, hw⟩
             ·
              rintro _ _ ⟨gx24, rfl, rfl, h⟩
              rw [m45_quirref_Stamp_K15] at h
              refine L.y rfl (Y.geq rfl rfl) ?_
              refine L.y rfl (Y.assign rfl) ?_
              refine L.nil (E.thenN (W.ret (E.ret1 rfl rfl (fun w1 hw => ?_))))
              exact ⟨_, _, rfl, ⟨decide (0 ≤ gx24), rfl, rfl, h⟩, hw⟩
            ·
             rintro _ _ ⟨gb23, rfl, rfl, h⟩
             rw [m45_quirref_Stamp_K14] at h
             refine L.y rfl (Y.assign rfl) ?_
             refine L.nil (E.thenN (W.ret (E.ret1 rfl rfl (fun w1 hw => ?_))))
             exact ⟨_, _, rfl, ⟨gb23, rfl, rfl, h⟩, hw.sel [2, 3, 4, 5, 6] (by decide) rfl⟩
           ·
            rintro _ _ ⟨gb16, rfl, rfl, h⟩
            rw [m45_quirref_Stamp_K7] at h
            rcases gb16 with _ | _
            ·
             replace h := iteF h
             refine L.take rfl (L.y rfl (Y.not rfl) ?_)
             refine L.y rfl (Y.pickT rfl rfl) ?_
             refine L.y rfl (Y.move rfl) ?_
             refine L.take rfl (L.y rfl (Y.move rfl) ?_)
             refine L.take rfl (L.y rfl (Y.loadPW (i := 0) ag61 sz61 rfl rfl rfl) ?_)
             refine L.take rfl (L.callVJ (fun v D => ∃ (gb17 : Bool), v = .bool gb17 ∧ D = Cls w [] [.obj b7 [.int .i64 x6.Tx, .int .i64 x6.Kind, .int .i64 x6.Item] 61, .obj b2 [gv6, gv8, .slice none 0 0] 82, .obj b1 [.slice none 0 0, .slice none 0 0, .slice none 0 0] 82, .sl gv6 61 3 (gl7.map TOp.row), .sl gv8 3 1 (gl9.map I)] ∧ m45_quirref_Stamp_K8 gx5 go1 gl7 gl9 x6 gb17 = some r) rfl en148 rfl rfl Try.func148 rfl rfl rfl ?_ ?_)
             ·
              refine W.seq (W.region (L.box rfl rfl ?_))
              intro b11
              refine L.box rfl rfl ?_
              intro b12
              refine L.y rfl (Y.assign rfl) ?_
              refine L.nil (E.thenN (W.seq (W.region (L.y rfl (Y.fieldP fd82_0 rfl) ?_))))
              refine L.y rfl (Y.loadP (i := 3) ag57 rfl rfl rfl) ?_
              refine L.y rfl (Y.func rfl) ?_
              refine L.callJ (fun v D => ∃ (gb18 : Bool), v = .bool gb18 ∧ D = Cls w [] [.obj b12 [.int .i64 2] 3, .obj b11 [.int .i64 x6.Tx, .int .i64 x6.Kind, .int .i64 x6.Item] 61, .obj b7 [.int .i64 x6.Tx, .int .i64 x6.Kind, .int .i64 x6.Item] 61, .obj b2 [gv6, gv8, .slice none 0 0] 82, .obj b1 [.slice none 0 0, .slice none 0 0, .slice none 0 0] 82, .sl gv6 61 3 (gl7.map TOp.row), .sl gv8 3 1 (gl9.map I)] ∧ m45_quirref_Stamp_K9 gx5 go1 gl7 gl9 x6 gb18 = some r) rfl en149 rfl Try.func149 rfl rfl rfl ?_ ?_
              ·
               refine W.seq (W.region (L.y rfl (Y.assign rfl) ?_))
               refine L.nil (E.thenN (W.seq (W.region (L.y rfl (Y.move rfl) ?_))))
               refine L.y rfl (Y.move rfl) ?_
               refine L.callJ (fun v D => ∃ (gx19 : Int), v = .int .i64 gx19 ∧ D = Cls w [] [.obj b12 [.int .i64 2] 3, .obj b11 [.int .i64 x6.Tx, .int .i64 x6.Kind, .int .i64 x6.Item] 61, .obj b7 [.int .i64 x6.Tx, .int .i64 x6.Kind, .int .i64 x6.Item] 61, .obj b2 [gv6, gv8, .slice none 0 0] 82, .obj b1 [.slice none 0 0, .slice none 0 0, .slice none 0 0] 82, .sl gv6 61 3 (gl7.map TOp.row), .sl gv8 3 1 (gl9.map I)] ∧ m45_quirref_Stamp_K10 gx5 go1 gl7 gl9 x6 gx19 = some r) rfl en249 rfl Try.func249 rfl rfl rfl ?_ ?_
               ·
                refine W.seq (W.region (L.y rfl (Y.assign rfl) ?_))
                refine L.nil (E.thenN (W.seqJ (fun gs D => gs = [] ∧ D = Cls w [] [.obj b12 [.int .i64 2] 3, .obj b11 [.int .i64 x6.Tx, .int .i64 x6.Kind, .int .i64 x6.Item] 61, .obj b7 [.int .i64 x6.Tx, .int .i64 x6.Kind, .int .i64 x6.Item] 61, .obj b2 [gv6, gv8, .slice none 0 0] 82, .obj b1 [.slice none 0 0, .slice none 0 0, .slice none 0 0] 82, .sl gv6 61 3 (gl7.map TOp.row), .sl gv8 3 1 (gl9.map I)] ∧ m45_quirref_Stamp_K11 gx5 go1 gl7 gl9 x6 = some r) ?_ ?_))
                ·
                 refine W.seq (W.region (L.y rfl (Y.move rfl) ?_))
                 refine L.y rfl (Y.lenM (g := TOp.row) (l := gl7) Try.underlying57 rfl (fun w hw => As.at_ (hw.get (i := 5) rfl))) ?_
                 refine L.y rfl (Y.move rfl) ?_
                 refine L.nil (E.thenN (W.block (W.loopJ (fun m gs D => ∃ (gx20 : Int), gs = [(0, gv6), (1, .func (.func 150) #[] #[pt b12 0, pt b11 0]), (7, .int .i64 (gl7.length : Int)), (8, .int .i64 gx20)] ∧ D = Cls w [] [.obj b12 [.int .i64 2] 3, .obj b11 [.int .i64 x6.Tx, .int .i64 x6.Kind, .int .i64 x6.Item] 61, .obj b7 [.int .i64 x6.Tx, .int .i64 x6.Kind, .int .i64 x6.Item] 61, .obj b2 [gv6, gv8, .slice none 0 0] 82, .obj b1 [.slice none 0 0, .slice none 0 0, .slice none 0 0] 82, .sl gv6 61 3 (gl7.map TOp.row), .sl gv8 3 1 (gl9.map I)] ∧ m45_quirref_Stamp_L2 gl7 x6 gx5 go1 gl9 m gx20 = some r) ⟨0, rfl, rfl, h⟩ ⟨rfl, rfl, rfl, rfl, trivial⟩ (fun _ hw => hw) ?_)))
                 rintro m _ _ ⟨gx20, rfl, rfl, h⟩
                 rcases m with _ | m
                 · rw [m45_quirref_Stamp_L2] at h; cases h
                 rw [m45_quirref_Stamp_L2] at h
                 generalize hg2 : m45_quirref_Stamp_L2 gl7 x6 gx5 go1 gl9 m = go2 at h
                 rw [m45_quirref_Stamp_L2B] at h
                 refine W.seq (W.region (L.ite h rfl (Y.lss rfl rfl) (fun c13 h => ?_) (fun c13 h => ?_)))
                 ·
                  refine L.nil (E.thenN (W.seq (W.condT rfl ?_)))
                  refine W.skip (E.thenN (W.seq (W.block (W.seq (W.region (L.y rfl (Y.move rfl) ?_))))))
                  refine L.y rfl (Y.assign rfl) ?_
                  refine L.nil (E.thenN (W.seq (W.region (L.y rfl (Y.move rfl) ?_))))
                  refine L.y rfl (Y.move rfl) ?_
                  refine L.y rfl (Y.move rfl) ?_
                  refine L.m (V := fun _ => el gv6 (gx20.toNat * 3)) h rfl (Y.indexM (g := TOp.row) (l := gl7) Try.underlying57 sz61 rfl rfl (fun w hw => As.at_ (hw.get (i := 5) rfl))) (fun x14 ex14 h => ?_)
                  refine L.y rfl (Y.loadEN (r := [.int .i64 x14.Tx, .int .i64 x14.Kind, .int .i64 x14.Item]) ag61 sz61 rfl (fun w hw => As.at_ (hw.get (i := 5) rfl)) (idx_map ex14) rfl) ?_
                  refine L.callVJ (fun v D => ∃ (gb21 : Bool), v = .bool gb21 ∧ D = Cls w [] [.obj b12 [.int .i64 2] 3, .obj b11 [.int .i64 x6.Tx, .int .i64 x6.Kind, .int .i64 x6.Item] 61, .obj b7 [.int .i64 x6.Tx, .int .i64 x6.Kind, .int .i64 x6.Item] 61, .obj b2 [gv6, gv8, .slice none 0 0] 82, .obj b1 [.slice none 0 0, .slice none 0 0, .slice none 0 0] 82, .sl gv6 61 3 (gl7.map TOp.row), .sl gv8 3 1 (gl9.map I)] ∧ m45_quirref_Stamp_K12 gx5 go1 gl7 gl9 x6 gx20 go2 gb21 = some r) rfl en150 rfl rfl Try.func150 rfl rfl rfl ?_ ?_
                  ·
                   refine W.seq (W.region (L.box rfl rfl ?_))
                   intro b16
                   refine L.y rfl (Y.assign rfl) ?_
                   refine L.nil (E.thenN (W.seq (W.region (L.cutJ 11 (fun gs D => ∃ (gb22 : Bool), gs = [(2, pt b11 0), (3, pt b16 0), (15, .bool gb22)] ∧ D = Cls w [] [.obj b16 [.int .i64 x14.Tx, .int .i64 x14.Kind, .int .i64 x14.Item] 61, .obj b12 [.int .i64 2] 3, .obj b11 [.int .i64 x6.Tx, .int .i64 x6.Kind, .int .i64 x6.Item] 61, .obj b7 [.int .i64 x6.Tx, .int .i64 x6.Kind, .int .i64 x6.Item] 61, .obj b2 [gv6, gv8, .slice none 0 0] 82, .obj b1 [.slice none 0 0, .slice none 0 0, .slice none 0 0] 82, .sl gv6 61 3 (gl7.map TOp.row), .sl gv8 3 1 (gl9.map I)] ∧ m45_quirref_Stamp_K13 gx5 go1 gl7 gl9 x6 gx20 go2 x14 gb22 = some r) ?_ ?_))))
                   ·
                    refine L.y rfl (Y.fieldP fd61_1 rfl) ?_
                    refine L.y rfl (Y.loadP (i := 0) ag3 rfl rfl rfl) ?_
                    refine L.y rfl (Y.loadP (i := 1) ag3 rfl rfl rfl) ?_
                    refine L.ite h rfl (Y.eql rfl rfl) (fun c17 h => ?_) (fun c17 h => ?_)
                    ·
                     refine L.y rfl (Y.move rfl) ?_
                     refine L.take rfl (L.y rfl (Y.fieldP fd61_2 rfl) ?_)
                     refine L.take rfl (L.y rfl (Y.loadP (i := 0) ag3 rfl rfl rfl) ?_)
                     refine L.take rfl (L.y rfl (Y.fieldP fd61_2 rfl) ?_)
                     refine L.take rfl (L.y rfl (Y.loadP (i := 2) ag3 rfl rfl rfl) ?_)
                     refine L.take rfl (L.ite h rfl (Y.eql rfl rfl) (fun c18 h => ?_) (fun c18 h => ?_))
                     ·
                      refine L.y rfl (Y.pickT rfl rfl) ?_
                      exact L.nil (E.joinJ ⟨true, rfl, rfl, h⟩ ⟨rfl, rfl, rfl, trivial⟩ (fun _ hw => hw))
                     ·
                      refine L.y rfl (Y.pickT rfl rfl) ?_
                      exact L.nil (E.joinJ ⟨false, rfl, rfl, h⟩ ⟨rfl, rfl, rfl, trivial⟩ (fun _ hw => hw))
                    ·
                     refine L.y rfl (Y.move rfl) ?_
                     refine L.pass rfl rfl (by nofun) ?_
                     refine L.pass rfl rfl (by nofun) ?_
                     refine L.pass rfl rfl (by nofun) ?_
                     refine L.pass rfl rfl (by nofun) ?_
                     refine L.pass rfl rfl (by nofun) ?_
                     refine L.y rfl (Y.pickF rfl rfl) ?_
                     exact L.nil (E.joinJ ⟨false, rfl, rfl, h⟩ ⟨rfl, rfl, rfl, trivial⟩ (fun _ hw => hw))
                   ·
                    rintro _ _ ⟨gb22, rfl, rfl, h⟩
                    rw [m45_quirref_Stamp_K13] at h
                    rcases gb22 with _ | _
                    ·
                     replace h := iteF h
                     refine L.y rfl (Y.move rfl) ?_
                     refine L.pass rfl rfl (by nofun) ?_
                     refine L.pass rfl rfl (by nofun) ?_
                     refine L.pass rfl rfl (by nofun) ?_
                     refine L.pass rfl rfl (by nofun) ?_
                     refine L.pass rfl rfl (by nofun) ?_
                     refine L.y rfl (Y.pickF rfl rfl) ?_
                     refine L.y rfl (Y.assign rfl) ?_
                     refine L.nil (E.thenN (W.ret (E.ret1 rfl rfl (fun w1 hw => ?_))))
                     exact ⟨_, _, rfl, ⟨false, rfl, rfl, h⟩, hw.sel [1, 2, 3, 4, 5, 6, 7] (by decide) rfl⟩
                    ·
                     replace h := iteT h
                     refine L.y rfl (Y.move rfl) ?_
                     refine L.take rfl (L.y rfl (Y.fieldP fd61_0 rfl) ?_)
                     refine L.take rfl (L.y rfl (Y.loadP (i := 0) ag3 rfl rfl rfl) ?_)
                     refine L.take rfl (L.y rfl (Y.fieldP fd61_0 rfl) ?_)
                     refine L.take rfl (L.y rfl (Y.loadP (i := 2) ag3 rfl rfl rfl) ?_)
                     refine L.take rfl (L.y rfl (Y.gtr rfl rfl) ?_)
                     refine L.y rfl (Y.pickT rfl rfl) ?_
                     refine L.y rfl (Y.assign rfl) ?_
                     refine L.nil (E.thenN (W.ret (E.ret1 rfl rfl (fun w1 hw => ?_))))
                     exact ⟨_, _, rfl, ⟨decide (x6.Tx < x14.Tx), rfl, rfl, h⟩, hw.sel [1, 2, 3, 4, 5, 6, 7] (by decide) rfl⟩
                  ·
                   rintro _ _ ⟨gb21, rfl, rfl, h⟩
                   rw [m45_quirref_Stamp_K12] at h
                   rcases gb21 with _ | _
                   ·
                    replace h := iteF h
                    refine L.nil (E.thenN (W.condF rfl ?_))
                    refine W.skip (E.blockN (E.thenN (W.region (L.m (V := fun x15 => .int .i64 x15) h rfl (Y.addM rfl rfl) (fun x15 ex15 h => ?_)))))
                    refine L.y rfl (Y.move rfl) ?_
                    exact L.nil (E.againJ ⟨x15, rfl, rfl, by rw [hg2]; exact h⟩ (Nat.lt_succ_self _) ⟨rfl, rfl, rfl, rfl, trivial⟩ (fun _ hw => hw))
                   ·
                    replace h := iteT h
                    refine L.nil (E.thenN (W.condT rfl ?_))
                    refine W.seq (W.region (L.y rfl (Y.move rfl) ?_))
                    refine L.y rfl (Y.assign rfl) ?_
                    refine L.nil (E.thenN (W.ret (E.blockR (E.thenR (E.KLR (E.blockR (E.KSR (E.ret1 rfl rfl (fun w1 hw => ?_)))))))))
                    exact ⟨_, _, rfl, ⟨gx20, rfl, rfl, h⟩, hw⟩
                 ·
                  refine L.nil (E.thenN (W.seq (W.condF rfl ?_)))
                  exact W.exit (E.thenX (E.KLX (E.blockX (E.joinJ ⟨rfl, rfl, h⟩ trivial (fun _ hw => hw)))))
                ·
                 rintro _ _ ⟨rfl, rfl, h⟩
                 rw [m45_quirref_Stamp_K11] at h
                 refine W.seq (W.region (L.y rfl (Y.assign rfl) ?_))
                 refine L.nil (E.thenN (W.ret (E.ret1 rfl rfl (fun w1 hw => ?_))))
                 exact ⟨_, _, rfl, ⟨(-1), rfl, rfl, h⟩, hw⟩
               ·
                rintro _ _ ⟨gx19, rfl, rfl, h⟩
                rw [m45_quirref_Stamp_K10] at h
                refine L.y rfl (Y.geq rfl rfl) ?_
                refine L.y rfl (Y.assign rfl) ?_
                refine L.nil (E.thenN (W.ret (E.ret1 rfl rfl (fun w1 hw => ?_))))
                exact ⟨_, _, rfl, ⟨decide (0 ≤ gx19), rfl, rfl, h⟩, hw⟩
              ·
               rintro _ _ ⟨gb18, rfl, rfl, h⟩
               rw [m45_quirref_Stamp_K9] at h
               refine L.y rfl (Y.assign rfl) ?_
               refine L.nil (E.thenN (W.ret (E.ret1 rfl rfl (fun w1 hw => ?_))))
               exact ⟨_, _, rfl, ⟨gb18, rfl, rfl, h⟩, hw.sel [2, 3, 4, 5, 6] (by decide) rfl⟩
             ·
              rintro _ _ ⟨gb17, rfl, rfl, h⟩
              rw [m45_quirref_Stamp_K8] at h
              rcases gb17 with _ | _
              ·
               replace h := iteF h
               refine L.y rfl (Y.pickT rfl rfl) ?_
               refine L.nil (E.thenN (W.condF rfl ?_))
               exact W.skip (E.joinJ ⟨rfl, rfl, h⟩ ⟨rfl, rfl, rfl, rfl, rfl, rfl, rfl, rfl, rfl, trivial⟩ (fun _ hw => hw))
              ·
               replace h := iteT h
               refine L.y rfl (Y.pickT rfl rfl) ?_
               refine L.nil (E.thenN (W.condT rfl ?_))
               exact W.exit (E.KSX (E.blockX (E.joinJ ⟨gv6, gl7, gv8, gl9, rfl, rfl, h⟩ ⟨rfl, rfl, rfl, rfl, rfl, rfl, rfl, trivial⟩ (fun _ hw => hw.sel [1, 2, 3, 4] (by decide) rfl))))
            ·
             replace h := iteT h
             refine L.take rfl (L.y rfl (Y.not rfl) ?_)
             refine L.y rfl (Y.pickT rfl rfl) ?_
             refine L.y rfl (Y.move rfl) ?_
             refine L.pass rfl rfl (by nofun) ?_
             refine L.pass rfl rfl (by nofun) ?_
             refine L.pass rfl rfl (by nofun) ?_
             refine L.y rfl (Y.pickF rfl rfl) ?_
             refine L.nil (E.thenN (W.condF rfl ?_))
             exact W.skip (E.joinJ ⟨rfl, rfl, h⟩ ⟨rfl, rfl, rfl, rfl, rfl, rfl, rfl, rfl, rfl, trivial⟩ (fun _ hw => hw))
        ·
         rintro _ _ ⟨rfl, rfl, h⟩
         rw [m45_quirref_Stamp_K5] at h
         refine W.seq (W.seq (W.region (L.y rfl (Y.move rfl) ?_)))
         refine L.nil (E.thenN (W.condF rfl ?_))
         refine W.skip (E.thenN (W.region (L.y rfl (Y.fieldP fd82_0 rfl) ?_)))
         refine L.y rfl (Y.loadP (i := 1) ag57 rfl rfl rfl) ?_
         refine L.y rfl (Y.loadPW (i := 0) ag61 sz61 rfl rfl rfl) ?_
         refine L.litAgg rfl Try.underlying57 el61 rfl rfl rfl ?_
         intro b8
         refine L.appM (i := 4) (g := TOp.row) (l := gl7) (more := [x6]) h rfl Try.underlying57 el61 rfl rfl rfl (fun w hw => As.at_ (hw.get (i := 0) rfl)) (plain_TOp _) rfl ?_
         intro v9 l10 el10 h
         refine L.y rfl (Y.fieldP fd82_0 rfl) ?_
         refine L.storeV (i := 3) sz57 rfl rfl (fun _ hw => (As.at_ (hw.get (i := 0) rfl)).one) rfl (Nat.le_of_ble_eq_true rfl) ?_
         exact L.nil (E.blockN (E.joinJ ⟨v9, l10, gv8, gl9, rfl, rfl, h⟩ ⟨rfl, rfl, rfl, rfl, rfl, rfl, rfl, trivial⟩ (fun _ hw => hw.sel [3, 4, 0, 5] (by decide) rfl)))
       ·
        replace h := iteT h
        refine W.seqJ (fun gs D => gs = [(1, .bool a1), (4, pt b1 0), (5, pt b2 0), (6, .func (.func 148) #[] #[pt b2 0]), (8, pt b7 0), (9, .bool true), (11, u0), (12, .int .i64 (a0.length : Int)), (13, .int .i64 gx5)] ∧ D = Cls w [] [.obj b7 [.int .i64 x6.Tx, .int .i64 x6.Kind, .int .i64 x6.Item] 61, .obj b2 [gv6, gv8, .slice none 0 0] 82, .obj b1 [.slice none 0 0, .slice none 0 0, .slice none 0 0] 82, .sl gv6 61 3 (gl7.map TOp.row), .sl gv8 3 1 (gl9.map I)] ∧ m45_quirref_Stamp_K19 gl9 x6 gl7 gx5 go1 = some r) ?_ ?_
        ·
         refine W.seq (W.region (L.cutJ 6 (fun gs D => ∃ (gb28 : Bool), gs = [(1, .bool a1), (4, pt b1 0), (5, pt b2 0), (6, .func (.func 148) #[] #[pt b2 0]), (8, pt b7 0), (9, .bool true), (11, u0), (12, .int .i64 (a0.length : Int)), (13, .int .i64 gx5), (45, .bool gb28)] ∧ D = Cls w [] [.obj b7 [.int .i64 x6.Tx, .int .i64 x6.Kind, .int .i64 x6.Item] 61, .obj b2 [gv6, gv8, .slice none 0 0] 82, .obj b1 [.slice none 0 0, .slice none 0 0, .slice none 0 0] 82, .sl gv6 61 3 (gl7.map TOp.row), .sl gv8 3 1 (gl9.map I)] ∧ m45_quirref_Stamp_K20 gl7 x6 gl9 gx5 go1 gb28 = some r) ?_ ?_))
         ·
          refine L.y rfl (Y.fieldP fd61_1 rfl) ?_
          refine L.y rfl (Y.loadP (i := 0) ag3 rfl rfl rfl) ?_
          refine L.ite h rfl (Y.eql rfl rfl) (fun c51 h => ?_) (fun c51 h => ?_)
          ·
           refine L.y rfl (Y.move rfl) ?_
           refine L.take rfl (L.iteB h rfl (Y.move rfl) (fun c52 h => ?_) (fun c52 h => ?_))
           ·
            refine L.y rfl (Y.pickT rfl rfl) ?_
            exact L.nil (E.joinJ ⟨true, rfl, rfl, h⟩ ⟨rfl, rfl, rfl, rfl, rfl, rfl, rfl, rfl, rfl, rfl, trivial⟩ (fun _ hw => hw))
           ·
            refine L.y rfl (Y.pickT rfl rfl) ?_
            exact L.nil (E.joinJ ⟨false, rfl, rfl, h⟩ ⟨rfl, rfl, rfl, rfl, rfl, rfl, rfl, rfl, rfl, rfl, trivial⟩ (fun _ hw => hw))
          ·
           refine L.y rfl (Y.move rfl) ?_
           refine L.pass rfl rfl (by nofun) ?_
           refine L.y rfl (Y.pickF rfl rfl) ?_
           exact L.nil (E.joinJ ⟨false, rfl, rfl, h⟩ ⟨rfl, rfl, rfl, rfl, rfl, rfl, rfl, rfl, rfl, rfl, trivial⟩ (fun _ hw => hw))
         ·
          rintro _ _ ⟨gb28, rfl, rfl, h⟩
          rw [m45_quirref_Stamp_K20] at h
          rcases gb28 with _ | _
          ·
           replace h := iteF h
           refine L.y rfl (Y.move rfl) ?_
           refine L.pass rfl rfl (by nofun) ?_
           refine L.pass rfl rfl (by nofun) ?_
           refine L.pass rfl rfl (by nofun) ?_
           refine L.pass rfl rfl (by nofun) ?_
           refine L.y rfl (Y.pickF rfl rfl) ?_
           refine L.y rfl (Y.move rfl) ?_
           refine L.pass rfl rfl (by nofun) ?_
           refine L.pass rfl rfl (by nofun) ?_
           refine L.pass rfl rfl (by nofun) ?_
           refine L.y rfl (Y.pickF rfl rfl) ?_
           refine L.nil (E.thenN (W.condF rfl ?_))
           exact W.skip (E.joinJ ⟨rfl, rfl, h⟩ ⟨rfl, rfl, rfl, rfl, rfl, rfl, rfl, rfl, rfl, trivial⟩ (fun _ hw => hw))
          ·
           replace h := iteT h
           refine L.y rfl (Y.move rfl) ?_
           refine L.take rfl (L.y rfl (Y.move rfl) ?_)
           refine L.take rfl (L.y rfl (Y.loadPW (i := 0) ag61 sz61 rfl rfl rfl) ?_)
           refine L.take rfl (L.callVJ (fun v D => ∃ (gb29 : Bool), v = .bool gb29 ∧ D = Cls w [] [.obj b7 [.int .i64 x6.Tx, .int .i64 x6.Kind, .int .i64 x6.Item] 61, .obj b2 [gv6, gv8, .slice none 0 0] 82, .obj b1 [.slice none 0 0, .slice none 0 0, .slice none 0 0] 82, .sl gv6 61 3 (gl7.map TOp.row), .sl gv8 3 1 (gl9.map I)] ∧ m45_quirref_Stamp_K21 gl9 x6 gl7 gx5 go1 gb29 = some r) rfl en148 rfl rfl Try.func148 rfl rfl rfl ?_ ?_)
           ·
            refine W.seq (W.region (L.box rfl rfl ?_))
            intro b43
            refine L.box rfl rfl ?_
            intro b44
            refine L.y rfl (Y.assign rfl) ?_
            refine L.nil (E.thenN (W.seq (W.region (L.y rfl (Y.fieldP fd82_0 rfl) ?_))))
            refine L.y rfl (Y.loadP (i := 3) ag57 rfl rfl rfl) ?_
            refine L.y rfl (Y.func rfl) ?_
            refine L.callJ (fun v D => ∃ (gb36 : Bool), v = .bool gb36 ∧ D = Cls w [] [.obj b44 [.int .i64 1] 3, .obj b43 [.int .i64 x6.Tx, .int .i64 x6.Kind, .int .i64 x6.Item] 61, .obj b7 [.int .i64 x6.Tx, .int .i64 x6.Kind, .int .i64 x6.Item] 61, .obj b2 [gv6, gv8, .slice none 0 0] 82, .obj b1 [.slice none 0 0, .slice none 0 0, .slice none 0 0] 82, .sl gv6 61 3 (gl7.map TOp.row), .sl gv8 3 1 (gl9.map I)] ∧ m45_quirref_Stamp_K28 gl9 x6 gl7 gx5 go1 gb36 = some r) rfl en149 rfl Try.func149 rfl rfl rfl ?_ ?_
            ·
             refine W.seq (W.region (L.y rfl (Y.assign rfl) ?_))
             refine L.nil (E.thenN (W.seq (W.region (L.y rfl (Y.move rfl) ?_))))
             refine L.y rfl (Y.move rfl) ?_
             refine L.callJ (fun v D => ∃ (gx37 : Int), v = .int .i64 gx37 ∧ D = Cls w [] [.obj b44 [.int .i64 1] 3, .obj b43 [.int .i64 x6.Tx, .int .i64 x6.Kind, .int .i64 x6.Item] 61, .obj b7 [.int .i64 x6.Tx, .int .i64 x6.Kind, .int .i64 x6.Item] 61, .obj b2 [gv6, gv8, .slice none 0 0] 82, .obj b1 [.slice none 0 0, .slice none 0 0, .slice none 0 0] 82, .sl gv6 61 3 (gl7.map TOp.row), .sl gv8 3 1 (gl9.map I)] ∧ m45_quirref_Stamp_K29 gl9 x6 gl7 gx5 go1 gx37 = some r) rfl en249 rfl Try.func249 rfl rfl rfl ?_ ?_
             ·
              refine W.seq (W.region (L.y rfl (Y.assign rfl) ?_))
              refine L.nil (E.thenN (W.seqJ (fun gs D => gs = [] ∧ D = Cls w [] [.obj b44 [.int .i64 1] 3, .obj b43 [.int .i64 x6.Tx, .int .i64 x6.Kind, .int .i64 x6.Item] 61, .obj b7 [.int .i64 x6.Tx, .int .i64 x6.Kind, .int .i64 x6.Item] 61, .obj b2 [gv6, gv8, .slice none 0 0] 82, .obj b1 [.slice none 0 0, .slice none 0 0, .slice none 0 0] 82, .sl gv6 61 3 (gl7.map TOp.row), .sl gv8 3 1 (gl9.map I)] ∧ m45_quirref_Stamp_K30 gl9 x6 gl7 gx5 go1 = some r) ?_ ?_))
              ·
               refine W.seq (W.region (L.y rfl (Y.move rfl) ?_))
               refine L.y rfl (Y.lenM (g := TOp.row) (l := gl7) Try.underlying57 rfl (fun w hw => As.at_ (hw.get (i := 5) rfl))) ?_
               refine L.y rfl (Y.move rfl) ?_
               refine L.nil (E.thenN (W.block (W.loopJ (fun m gs D => ∃ (gx38 : Int), gs = [(0, gv6), (1, .func (.func 150) #[] #[pt b44 0, pt b43 0]), (7, .int .i64 (gl7.length : Int)), (8, .int .i64 gx38)] ∧ D = Cls w [] [.obj b44 [.int .i64 1] 3, .obj b43 [.int .i64 x6.Tx, .int .i64 x6.Kind, .int .i64 x6.Item] 61, .obj b7 [.int .i64 x6.Tx, .int .i64 x6.Kind, .int .i64 x6.Item] 61, .obj b2 [gv6, gv8, .slice none 0 0] 82, .obj b1 [.slice none 0 0, .slice none 0 0, .slice none 0 0] 82, .sl gv6 61 3 (gl7.map TOp.row), .sl gv8 3 1 (gl9.map I)] ∧ m45_quirref_Stamp_L5 gl7 x6 gl9 gx5 go1 m gx38 = some r) ⟨0, rfl, rfl, h⟩ ⟨rfl, rfl, rfl, rfl, trivial⟩ (fun _ hw => hw) ?_)))
               rintro m _ _ ⟨gx38, rfl, rfl, h⟩
               rcases m with _ | m
               · rw [m45_quirref_Stamp_L5] at h; cases h
               rw [m45_quirref_Stamp_L5] at h
               generalize hg5 : m45_quirref_Stamp_L5 gl7 x6 gl9 gx5 go1 m = go5 at h
               rw [m45_quirref_Stamp_L5B] at h
               refine W.seq (W.region (L.ite h rfl (Y.lss rfl rfl) (fun c45 h => ?_) (fun c45 h => ?_)))
               ·
                refine L.nil (E.thenN (W.seq (W.condT rfl ?_)))
                refine W.skip (E.thenN (W.seq (W.block (W.seq (W.region (L.y rfl (Y.move rfl) ?_))))))
                refine L.y rfl (Y.assign rfl) ?_
                refine L.nil (E.thenN (W.seq (W.region (L.y rfl (Y.move rfl) ?_))))
                refine L.y rfl (Y.move rfl) ?_
                refine L.y rfl (Y.move rfl) ?_
                refine L.m (V := fun _ => el gv6 (gx38.toNat * 3)) h rfl (Y.indexM (g := TOp.row) (l := gl7) Try.underlying57 sz61 rfl rfl (fun w hw => As.at_ (hw.get (i := 5) rfl))) (fun x46 ex46 h => ?_)
                refine L.y rfl (Y.loadEN (r := [.int .i64 x46.Tx, .int .i64 x46.Kind, .int .i64 x46.Item]) ag61 sz61 rfl (fun w hw => As.at_ (hw.get (i := 5) rfl)) (idx_map ex46) rfl) ?_
                refine L.callVJ (fun v D => ∃ (gb39 : Bool), v = .bool gb39 ∧ D = Cls w [] [.obj b44 [.int .i64 1] 3, .obj b43 [.int .i64 x6.Tx, .int .i64 x6.Kind, .int .i64 x6.Item] 61, .obj b7 [.int .i64 x6.Tx, .int .i64 x6.Kind, .int .i64 x6.Item] 61, .obj b2 [gv6, gv8, .slice none 0 0] 82, .obj b1 [.slice none 0 0, .slice none 0 0, .slice none 0 0] 82, .sl gv6 61 3 (gl7.map TOp.row), .sl gv8 3 1 (gl9.map I)] ∧ m45_quirref_Stamp_K31 gl9 x6 gl7 gx5 go1 gx38 go5 gb39 = some r) rfl en150 rfl rfl Try.func150 rfl rfl rfl ?_ ?_
                ·
                 refine W.seq (W.region (L.box rfl rfl ?_))
                 intro b48
                 refine L.y rfl (Y.assign rfl) ?_
                 refine L.nil (E.thenN (W.seq (W.region (L.cutJ 11 (fun gs D => ∃ (gb40 : Bool), gs = [(2, pt b43 0), (3, pt b48 0), (15, .bool gb40)] ∧ D = Cls w [] [.obj b48 [.int .i64 x46.Tx, .int .i64 x46.Kind, .int .i64 x46.Item] 61, .obj b44 [.int .i64 1] 3, .obj b43 [.int .i64 x6.Tx, .int .i64 x6.Kind, .int .i64 x6.Item] 61, .obj b7 [.int .i64 x6.Tx, .int .i64 x6.Kind, .int .i64 x6.Item] 61, .obj b2 [gv6, gv8, .slice none 0 0] 82, .obj b1 [.slice none 0 0, .slice none 0 0, .slice none 0 0] 82, .sl gv6 61 3 (gl7.map TOp.row), .sl gv8 3 1 (gl9.map I)] ∧ m45_quirref_Stamp_K32 gl9 x6 gl7 gx5 go1 gx38 go5 x46 gb40 = some r) ?_ ?_))))
                 ·
                  refine L.y rfl (Y.fieldP fd61_1 rfl) ?_
                  refine L.y rfl (Y.loadP (i := 0) ag3 rfl rfl rfl) ?_
                  refine L.y rfl (Y.loadP (i := 1) ag3 rfl rfl rfl) ?_
                  refine L.ite h rfl (Y.eql rfl rfl) (fun c49 h => ?_) (fun c49 h => ?_)
                  ·
                   refine L.y rfl (Y.move rfl) ?_
                   refine L.take rfl (L.y rfl (Y.fieldP fd61_2 rfl) ?_)
                   refine L.take rfl (L.y rfl (Y.loadP (i := 0) ag3 rfl rfl rfl) ?_)
                   refine L.take rfl (L.y rfl (Y.fieldP fd61_2 rfl) ?_)
                   refine L.take rfl (L.y rfl (Y.loadP (i := 2) ag3 rfl rfl rfl) ?_)
                   refine L.take rfl (L.ite h rfl (Y.eql rfl rfl) (fun c50 h => ?_) (fun c50 h => ?_))
                   ·
                    refine L.y rfl (Y.pickT rfl rfl) ?_
                    exact L.nil (E.joinJ ⟨true, rfl, rfl, h⟩ ⟨rfl, rfl, rfl, trivial⟩ (fun _ hw => hw))
                   ·
                    refine L.y rfl (Y.pickT rfl rfl) ?_
                    exact L.nil (E.joinJ ⟨false, rfl, rfl, h⟩ ⟨rfl, rfl, rfl, trivial⟩ (fun _ hw => hw))
                  ·
                   refine L.y rfl (Y.move rfl) ?_
                   refine L.pass rfl rfl (by nofun) ?_
                   refine L.pass rfl rfl (by nofun) ?_
                   refine L.pass rfl rfl (by nofun) ?_
                   refine L.pass rfl rfl (by nofun) ?_
                   refine L.pass rfl rfl (by nofun) ?_
                   refine L.y rfl (Y.pickF rfl rfl) ?_
                   exact L.nil (E.joinJ ⟨false, rfl, rfl, h⟩ ⟨rfl, rfl, rfl, trivial⟩ (fun _ hw => hw))
                 ·
                  rintro _ _ ⟨gb40, rfl, rfl, h⟩
                  rw [m45_quirref_Stamp_K32] at h
                  rcases gb40 with _ | _
                  ·
                   replace h := iteF h
                   refine L.y rfl (Y.move rfl) ?_
                   refine L.pass rfl rfl (by nofun) ?_
                   refine L.pass rfl rfl (by nofun) ?_
                   refine L.pass rfl rfl (by nofun) ?_
                   refine L.pass rfl rfl (by nofun) ?_
                   refine L.pass rfl rfl (by nofun) ?_
                   refine L.y rfl (Y.pickF rfl rfl) ?_
                   refine L.y rfl (Y.assign rfl) ?_
                   refine L.nil (E.thenN (W.ret (E.ret1 rfl rfl (fun w1 hw => ?_))))
                   exact ⟨_, _, rfl, ⟨false, rfl, rfl, h⟩, hw.sel [1, 2, 3, 4, 5, 6, 7] (by decide) rfl⟩
                  ·
                   replace h := iteT h
                   refine L.y rfl (Y.move rfl) ?_
                   refine L.take rfl (L.y rfl (Y.fieldP fd61_0 rfl) ?_)
                   refine L.take rfl (L.y rfl (Y.loadP (i := 0) ag3 rfl rfl rfl) ?_)
                   refine L.take rfl (L.y rfl (Y.fieldP fd61_0 rfl) ?_)
                   refine L.take rfl (L.y rfl (Y.loadP (i := 2) ag3 rfl rfl rfl) ?_)
                   refine L.take rfl (L.y rfl (Y.gtr rfl rfl) ?_)
                   refine L.y rfl (Y.pickT rfl rfl) ?_
                   refine L.y rfl (Y.assign rfl) ?_
                   refine L.nil (E.thenN (W.ret (E.ret1 rfl rfl (fun w1 hw => ?_))))
                   exact ⟨_, _, rfl, ⟨decide (x6.Tx < x46.Tx), rfl, rfl, h⟩, hw.sel [1, 2, 3, 4, 5, 6, 7] (by decide) rfl⟩
                ·
                 rintro _ _ ⟨gb39, rfl, rfl, h⟩
                 rw [m45_quirref_Stamp_K31] at h
                 rcases gb39 with _ | _
                 ·
                  replace h := iteF h
                  refine L.nil (E.thenN (W.condF rfl ?_))
                  refine W.skip (E.blockN (E.thenN (W.region (L.m (V := fun x47 => .int .i64 x47) h rfl (Y.addM rfl rfl) (fun x47 ex47 h => ?_)))))
                  refine L.y rfl (Y.move rfl) ?_
                  exact L.nil (E.againJ ⟨x47, rfl, rfl, by rw [hg5]; exact h⟩ (Nat.lt_succ_self _) ⟨rfl, rfl, rfl, rfl, trivial⟩ (fun _ hw => hw))
                 ·
                  replace h := iteT h
                  refine L.nil (E.thenN (W.condT rfl ?_))
                  refine W.seq (W.region (L.y rfl (Y.move rfl) ?_))
                  refine L.y rfl (Y.assign rfl) ?_
                  refine L.nil (E.thenN (W.ret (E.blockR (E.thenR (E.KLR (E.blockR (E.KSR (E.ret1 rfl rfl (fun w1 hw => ?_)))))))))
                  exact ⟨_, _, rfl, ⟨gx38, rfl, rfl, h⟩, hw⟩
               ·
                refine L.nil (E.thenN (W.seq (W.condF rfl ?_)))
                exact W.exit (E.thenX (E.KLX (E.blockX (E.joinJ ⟨rfl, rfl, h⟩ trivial (fun _ hw => hw)))))
              ·
               rintro _ _ ⟨rfl, rfl, h⟩
               rw [m45_quirref_Stamp_K30] at h
               refine W.seq (W.region (L.y rfl (Y.assign rfl) ?_))
               refine L.nil (E.thenN (W.ret (E.ret1 rfl rfl (fun w1 hw => ?_))))
               exact ⟨_, _, rfl, ⟨(-1), rfl, rfl, h⟩, hw⟩
             ·
              rintro _ _ ⟨gx37, rfl, rfl, h⟩
              rw [m45_quirref_Stamp_K29] at h
              refine L.y rfl (Y.geq rfl rfl) ?_
              refine L.y rfl (Y.assign rfl) ?_
              refine L.nil (E.thenN (W.ret (E.ret1 rfl rfl (fun w1 hw => ?_))))
              exact ⟨_, _, rfl, ⟨decide (0 ≤ gx37), rfl, rfl, h⟩, hw⟩
            ·
             rintro _ _ ⟨gb36, rfl, rfl, h⟩
             rw [m45_quirref_Stamp_K28] at h
             refine L.y rfl (Y.assign rfl) ?_
             refine L.nil (E.thenN (W.ret (E.ret1 rfl rfl (fun w1 hw => ?_))))
             exact ⟨_, _, rfl, ⟨gb36, rfl, rfl, h⟩, hw.sel [2, 3, 4, 5, 6] (by decide) rfl⟩
           ·
            rintro _ _ ⟨gb29, rfl, rfl, h⟩
            rw [m45_quirref_Stamp_K21] at h
            rcases gb29 with _ | _
            ·
             replace h := iteF h
             refine L.take rfl (L.y rfl (Y.not rfl) ?_)
             refine L.y rfl (Y.pickT rfl rfl) ?_
             refine L.y rfl (Y.move rfl) ?_
             refine L.take rfl (L.y rfl (Y.move rfl) ?_)
             refine L.take rfl (L.y rfl (Y.loadPW (i := 0) ag61 sz61 rfl rfl rfl) ?_)
             refine L.take rfl (L.callVJ (fun v D => ∃ (gb30 : Bool), v = .bool gb30 ∧ D = Cls w [] [.obj b7 [.int .i64 x6.Tx, .int .i64 x6.Kind, .int .i64 x6.Item] 61, .obj b2 [gv6, gv8, .slice none 0 0] 82, .obj b1 [.slice none 0 0, .slice none 0 0, .slice none 0 0] 82, .sl gv6 61 3 (gl7.map TOp.row), .sl gv8 3 1 (gl9.map I)] ∧ m45_quirref_Stamp_K22 gx5 go1 gl7 gl9 x6 gb30 = some r) rfl en148 rfl rfl Try.func148 rfl rfl rfl ?_ ?_)
             ·
              refine W.seq (W.region (L.box rfl rfl ?_))
              intro b35
              refine L.box rfl rfl ?_
              intro b36
              refine L.y rfl (Y.assign rfl) ?_
              refine L.nil (E.thenN (W.seq (W.region (L.y rfl (Y.fieldP fd82_0 rfl) ?_))))
              refine L.y rfl (Y.loadP (i := 3) ag57 rfl rfl rfl) ?_
              refine L.y rfl (Y.func rfl) ?_
              refine L.callJ (fun v D => ∃ (gb31 : Bool), v = .bool gb31 ∧ D = Cls w [] [.obj b36 [.int .i64 2] 3, .obj b35 [.int .i64 x6.Tx, .int .i64 x6.Kind, .int .i64 x6.Item] 61, .obj b7 [.int .i64 x6.Tx, .int .i64 x6.Kind, .int .i64 x6.Item] 61, .obj b2 [gv6, gv8, .slice none 0 0] 82, .obj b1 [.slice none 0 0, .slice none 0 0, .slice none 0 0] 82, .sl gv6 61 3 (gl7.map TOp.row), .sl gv8 3 1 (gl9.map I)] ∧ m45_quirref_Stamp_K23 gx5 go1 gl7 gl9 x6 gb31 = some r) rfl en149 rfl Try.func149 rfl rfl rfl ?_ ?_
              ·
               refine W.seq (W.region (L.y rfl (Y.assign rfl) ?_))
               refine L.nil (E.thenN (W.seq (W.region (L.y rfl (Y.move rfl) ?_))))
               refine L.y rfl (Y.move rfl) ?_
               refine L.callJ (fun v D => ∃ (gx32 : Int), v = .int .i64 gx32 ∧ D = Cls w [] [.obj b36 [.int .i64 2] 3, .obj b35 [.int .i64 x6.Tx, .int .i64 x6.Kind, .int .i64 x6.Item] 61, .obj b7 [.int .i64 x6.Tx, .int .i64 x6.Kind, .int .i64 x6.Item] 61, .obj b2 [gv6, gv8, .slice none 0 0] 82, .obj b1 [.slice none 0 0, .slice none 0 0, .slice none 0 0] 82, .sl gv6 61 3 (gl7.map TOp.row), .sl gv8 3 1 (gl9.map I)] ∧ m45_quirref_Stamp_K24 gx5 go1 gl7 gl9 x6 gx32 = some r) rfl en249 rfl Try.func249 rfl rfl rfl ?_ ?_
               ·
                refine W.seq (W.region (L.y rfl (Y.assign rfl) ?_))
                refine L.nil (E.thenN (W.seqJ (fun gs D => gs = [] ∧ D = Cls w [] [.obj b36 [.int .i64 2] 3, .obj b35 [.int .i64 x6.Tx, .int .i64 x6.Kind, .int .i64 x6.Item] 61, .obj b7 [.int .i64 x6.Tx, .int .i64 x6.Kind, .int .i64 x6.Item] 61, .obj b2 [gv6, gv8, .slice none 0 0] 82, .obj b1 [.slice none 0 0, .slice none 0 0, .slice none 0 0] 82, .sl gv6 61 3 (gl7.map TOp.row), .sl gv8 3 1 (gl9.map I)] ∧ m45_quirref_Stamp_K25 gx5 go1 gl7 gl9 x6 = some r) ?_ ?_))
                ·
                 refine W.seq (W.region (L.y rfl (Y.move rfl) ?_))
                 refine L.y rfl (Y.lenM (g := TOp.row) (l := gl7) Try.underlying57 rfl (fun w hw => As.at_ (hw.get (i := 5) rfl))) ?_
                 refine L.y rfl (Y.move rfl) ?_
                 refine L.nil (E.thenN (W.block (W.loopJ (fun m gs D => ∃ (gx33 : Int), gs = [(0, gv6), (1, .func (.func 150) #[] #[pt b36 0, pt b35 0]), (7, .int .i64 (gl7.length : Int)), (8, .int .i64 gx33)] ∧ D = Cls w [] [.obj b36 [.int .i64 2] 3, .obj b35 [.int .i64 x6.Tx, .int .i64 x6.Kind, .int .i64 x6.Item] 61, .obj b7 [.int .i64 x6.Tx, .int .i64 x6.Kind, .int .i64 x6.Item] 61, .obj b2 [gv6, gv8, .slice none 0 0] 82, .obj b1 [.slice none 0 0, .slice none 0 0, .slice none 0 0] 82, .sl gv6 61 3 (gl7.map TOp.row), .sl gv8 3 1 (gl9.map I)] ∧ m45_quirref_Stamp_L4 gl7 x6 gx5 go1 gl9 m gx33 = some r) ⟨0, rfl, rfl, h⟩ ⟨rfl, rfl, rfl, rfl, trivial⟩ (fun _ hw => hw) ?_)))
                 rintro m _ _ ⟨gx33, rfl, rfl, h⟩
                 rcases m with _ | m
                 · rw [m45_quirref_Stamp_L4] at h; cases h
                 rw [m45_quirref_Stamp_L4] at h
                 generalize hg4 : m45_quirref_Stamp_L4 gl7 x6 gx5 go1 gl9 m = go4 at h
                 rw [m45_quirref_Stamp_L4B] at h
                 refine W.seq (W.region (L.ite h rfl (Y.lss rfl rfl) (fun c37 h => ?_) (fun c37 h => ?_)))
                 ·
                  refine L.nil (E.thenN (W.seq (W.condT rfl ?_)))
                  refine W.skip (E.thenN (W.seq (W.block (W.seq (W.region (L.y rfl (Y.move rfl) ?_))))))
                  refine L.y rfl (Y.assign rfl) ?_
                  refine L.nil (E.thenN (W.seq (W.region (L.y rfl (Y.move rfl) ?_))))
                  refine L.y rfl (Y.move rfl) ?_
                  refine L.y rfl (Y.move rfl) ?_
                  refine L.m (V := fun _ => el gv6 (gx33.toNat * 3)) h rfl (Y.indexM (g := TOp.row) (l := gl7) Try.underlying57 sz61 rfl rfl (fun w hw => As.at_ (hw.get (i := 5) rfl))) (fun x38 ex38 h => ?_)
                  refine L.y rfl (Y.loadEN (r := [.int .i64 x38.Tx, .int .i64 x38.Kind, .int .i64 x38.Item]) ag61 sz61 rfl (fun w hw => As.at_ (hw.get (i := 5) rfl)) (idx_map ex38) rfl) ?_
                  refine L.callVJ (fun v D => ∃ (gb34 : Bool), v = .bool gb34 ∧ D = Cls w [] [.obj b36 [.int .i64 2] 3, .obj b35 [.int .i64 x6.Tx, .int .i64 x6.Kind, .int .i64 x6.Item] 61, .obj b7 [.int .i64 x6.Tx, .int .i64 x6.Kind, .int .i64 x6.Item] 61, .obj b2 [gv6, gv8, .slice none 0 0] 82, .obj b1 [.slice none 0 0, .slice none 0 0, .slice none 0 0] 82, .sl gv6 61 3 (gl7.map TOp.row), .sl gv8 3 1 (gl9.map I)] ∧ m45_quirref_Stamp_K26 gx5 go1 gl7 gl9 x6 gx33 go4 gb34 = some r) rfl en150 rfl rfl Try.func150 rfl rfl rfl ?_ ?_
                  ·
                   refine W.seq (W.region (L.box rfl rfl ?_))
                   intro b40
                   refine L.y rfl (Y.assign rfl) ?_
                   refine L.nil (E.thenN (W.seq (W.region (L.cutJ 11 (fun gs D => ∃ (gb35 : Bool), gs = [(2, pt b35 0), (3, pt b40 0), (15, .bool gb35)] ∧ D = Cls w [] [.obj b40 [.int .i64 x38.Tx, .int .i64 x38.Kind, .int .i64 x38.Item] 61, .obj b36 [.int .i64 2] 3, .obj b35 [.int .i64 x6.Tx, .int .i64 x6.Kind, .int .i64 x6.Item] 61, .obj b7 [.int .i64 x6.Tx, .int .i64 x6.Kind, .int .i64 x6.Item] 61, .obj b2 [gv6, gv8, .slice none 0 0] 82, .obj b1 [.slice none 0 0, .slice none 0 0, .slice none 0 0] 82, .sl gv6 61 3 (gl7.map TOp.row), .sl gv8 3 1 (gl9.map I)] ∧ m45_quirref_Stamp_K27 gx5 go1 gl7 gl9 x6 gx33 go4 x38 gb35 = some r) ?_ ?_))))
                   ·
                    refine L.y rfl (Y.fieldP fd61_1 rfl) ?_
                    refine L.y rfl (Y.loadP (i := 0) ag3 rfl rfl rfl) ?_
                    refine L.y rfl (Y.loadP (i := 1) ag3 rfl rfl rfl) ?_
                    refine L.ite h rfl (Y.eql rfl rfl) (fun c41 h => ?_) (fun c41 h => ?_)
                    ·
                     refine L.y rfl (Y.move rfl) ?_
                     refine L.take rfl (L.y rfl (Y.fieldP fd61_2 rfl) ?_)
                     refine L.take rfl (L.y rfl (Y.loadP (i := 0) ag3 rfl rfl rfl) ?_)
                     refine L.take rfl (L.y rfl (Y.fieldP fd61_2 rfl) ?_)
                     refine L.take rfl (L.y rfl (Y.loadP (i := 2) ag3 rfl rfl rfl) ?_)
                     refine L.take rfl (L.ite h rfl (Y.eql rfl rfl) (fun c42 h => ?_) (fun c42 h => ?_))
                     ·
                      refine L.y rfl (Y.pickT rfl rfl) ?_
                      exact L.nil (E.joinJ ⟨true, rfl, rfl, h⟩ ⟨rfl, rfl, rfl, trivial⟩ (fun _ hw => hw))
                     ·
                      refine L.y rfl (Y.pickT rfl rfl) ?_
                      exact L.nil (E.joinJ ⟨false, rfl, rfl, h⟩ ⟨rfl, rfl, rfl, trivial⟩ (fun _ hw => hw))
                    ·
                     refine L.y rfl (Y.move rfl) ?_
                     refine L.pass rfl rfl (by nofun) ?_
                     refine L.pass rfl rfl (by nofun) ?_
                     refine L.pass rfl rfl (by nofun) ?_
                     refine L.pass rfl rfl (by nofun) ?_
                     refine L.pass rfl rfl (by nofun) ?_
                     refine L.y rfl (Y.pickF rfl rfl) ?_
                     exact L.nil (E.joinJ ⟨false, rfl, rfl, h⟩ ⟨rfl, rfl, rfl, trivial⟩ (fun _ hw => hw))
                   ·
                    rintro _ _ ⟨gb35, rfl, rfl, h⟩
                    rw [m45_quirref_Stamp_K27] at h
                    rcases gb35 with _ | _
                    ·
                     replace h := iteF h
                     refine L.y rfl (Y.move rfl) ?_
                     refine L.pass rfl rfl (by nofun) ?_
                     refine L.pass rfl rfl (by nofun) ?_
                     refine L.pass rfl rfl (by nofun) ?_
                     refine L.pass rfl rfl (by nofun) ?_
                     refine L.pass rfl rfl (by nofun) ?_
                     refine L.y rfl (Y.pickF rfl rfl) ?_
                     refine L.y rfl (Y.assign rfl) ?_
                     refine L.nil (E.thenN (W.ret (E.ret1 rfl rfl (fun w1 hw => ?_))))
                     exact ⟨_, _, rfl, ⟨false, rfl, rfl, h⟩, hw.sel [1, 2, 3, 4, 5, 6, 7] (by decide) rfl⟩
                    ·
                     replace h := iteT h
                     refine L.y rfl (Y.move rfl) ?_
                     refine L.take rfl (L.y rfl (Y.fieldP fd61_0 rfl) ?_)
                     refine L.take rfl (L.y rfl (Y.loadP (i := 0) ag3 rfl rfl rfl) ?_)
                     refine L.take rfl (L.y rfl (Y.fieldP fd61_0 rfl) ?_)
                     refine L.take rfl (L.y rfl (Y.loadP (i := 2) ag3 rfl rfl rfl) ?_)
                     refine L.take rfl (L.y rfl (Y.gtr rfl rfl) ?_)
                     refine L.y rfl (Y.pickT rfl rfl) ?_
                     refine L.y rfl (Y.assign rfl) ?_
                     refine L.nil (E.thenN (W.ret (E.ret1 rfl rfl (fun w1 hw => ?_))))
                     exact ⟨_, _, rfl, ⟨decide (x6.Tx < x38.Tx), rfl, rfl, h⟩, hw.sel [1, 2, 3, 4, 5, 6, 7] (by decide) rfl⟩
                  ·
                   rintro _ _ ⟨gb34, rfl, rfl, h⟩
                   rw [m45_quirref_Stamp_K26] at h
                   rcases gb34 with _ | _
                   ·
                    replace h := iteF h
                    refine L.nil (E.thenN (W.condF rfl ?_))
                    refine W.skip (E.blockN (E.thenN (W.region (L.m (V := fun x39 => .int .i64 x39) h rfl (Y.addM rfl rfl) (fun x39 ex39 h => ?_)))))
                    refine L.y rfl (Y.move rfl) ?_
                    exact L.nil (E.againJ ⟨x39, rfl, rfl, by rw [hg4]; exact h⟩ (Nat.lt_succ_self _) ⟨rfl, rfl, rfl, rfl, trivial⟩ (fun _ hw => hw))
                   ·
                    replace h := iteT h
                    refine L.nil (E.thenN (W.condT rfl ?_))
                    refine W.seq (W.region (L.y rfl (Y.move rfl) ?_))
                    refine L.y rfl (Y.assign rfl) ?_
                    refine L.nil (E.thenN (W.ret (E.blockR (E.thenR (E.KLR (E.blockR (E.KSR (E.ret1 rfl rfl (fun w1 hw => ?_)))))))))
                    exact ⟨_, _, rfl, ⟨gx33, rfl, rfl, h⟩, hw⟩
                 ·
                  refine L.nil (E.thenN (W.seq (W.condF rfl ?_)))
                  exact W.exit (E.thenX (E.KLX (E.blockX (E.joinJ ⟨rfl, rfl, h⟩ trivial (fun _ hw => hw)))))
                ·
                 rintro _ _ ⟨rfl, rfl, h⟩
                 rw [m45_quirref_Stamp_K25] at h
                 refine W.seq (W.region (L.y rfl (Y.assign rfl) ?_))
                 refine L.nil (E.thenN (W.ret (E.ret1 rfl rfl (fun w1 hw => ?_))))
                 exact ⟨_, _, rfl, ⟨(-1), rfl, rfl, h⟩, hw⟩
               ·
                rintro _ _ ⟨gx32, rfl, rfl, h⟩
                rw [m45_quirref_Stamp_K24] at h
                refine L.y rfl (Y.geq rfl rfl) ?_
                refine L.y rfl (Y.assign rfl) ?_
                refine L.nil (E.thenN (W.ret (E.ret1 rfl rfl (fun w1 hw => ?_))))
                exact ⟨_, _, rfl, ⟨decide (0 ≤ gx32), rfl, rfl, h⟩, hw⟩
              ·
               rintro _ _ ⟨gb31, rfl, rfl, h⟩
               rw [m45_quirref_Stamp_K23] at h
               refine L.y rfl (Y.assign rfl) ?_
               refine L.nil (E.thenN (W.ret (E.ret1 rfl rfl (fun w1 hw => ?_))))
               exact ⟨_, _, rfl, ⟨gb31, rfl, rfl, h⟩, hw.sel [2, 3, 4, 5, 6] (by decide) rfl⟩
             ·
              rintro _ _ ⟨gb30, rfl, rfl, h⟩
              rw [m45_quirref_Stamp_K22] at h
              rcases gb30 with _ | _
              ·
               replace h := iteF h
               refine L.y rfl (Y.pickT rfl rfl) ?_
               refine L.nil (E.thenN (W.condF rfl ?_))
               exact W.skip (E.joinJ ⟨rfl, rfl, h⟩ ⟨rfl, rfl, rfl, rfl, rfl, rfl, rfl, rfl, rfl, trivial⟩ (fun _ hw => hw))
              ·
               replace h := iteT h
               refine L.y rfl (Y.pickT rfl rfl) ?_
               refine L.nil (E.thenN (W.condT rfl ?_))
               exact W.exit (E.KSX (E.blockX (E.joinJ ⟨gv6, gl7, gv8, gl9, rfl, rfl, h⟩ ⟨rfl, rfl, rfl, rfl, rfl, rfl, rfl, trivial⟩ (fun _ hw => hw.sel [1, 2, 3, 4] (by decide) rfl))))
            ·
             replace h := iteT h
             refine L.take rfl (L.y rfl (Y.not rfl) ?_)
             refine L.y rfl (Y.pickT rfl rfl) ?_
             refine L.y rfl (Y.move rfl) ?_
             refine L.pass rfl rfl (by nofun) ?_
             refine L.pass rfl rfl (by nofun) ?_
             refine L.pass rfl rfl (by nofun) ?_
             refine L.y rfl (Y.pickF rfl rfl) ?_
             refine L.nil (E.thenN (W.condF rfl ?_))
             exact W.skip (E.joinJ ⟨rfl, rfl, h⟩ ⟨rfl, rfl, rfl, rfl, rfl, rfl, rfl, rfl, rfl, trivial⟩ (fun _ hw => hw))
        ·
         rintro _ _ ⟨rfl, rfl, h⟩
         rw [m45_quirref_Stamp_K19] at h
         refine W.seq (W.seq (W.region (L.y rfl (Y.move rfl) ?_)))
         refine L.nil (E.thenN (W.condT rfl ?_))
         refine W.seq (W.region (L.y rfl (Y.fieldP fd82_1 rfl) ?_))
         refine L.y rfl (Y.loadP (i := 1) ag36 rfl rfl rfl) ?_
         refine L.y rfl (Y.fieldP fd61_0 rfl) ?_
         refine L.y rfl (Y.loadP (i := 0) ag3 rfl rfl rfl) ?_
         refine L.litOne rfl Try.underlying36 el3 rfl rfl ?_
         intro b29
         refine L.appM (i := 5) (g := I) (l := gl9) (more := [x6.Tx]) h rfl Try.underlying36 el3 rfl rfl rfl (fun w hw => As.at_ (hw.get (i := 0) rfl)) (plain_ints _) rfl ?_
         intro v30 l31 el31 h
         refine L.y rfl (Y.fieldP fd82_1 rfl) ?_
         refine L.storeV (i := 3) sz36 rfl rfl (fun _ hw => (As.at_ (hw.get (i := 0) rfl)).one) rfl (Nat.le_of_ble_eq_true rfl) ?_
         refine L.nil (E.thenN (W.region (L.y rfl (Y.fieldP fd61_0 rfl) ?_)))
         refine L.y rfl (Y.loadP (i := 2) ag3 rfl rfl rfl) ?_
         refine L.y rfl (Y.build (cells := #[.int .i64 x6.Tx, .int .i64 4, .int .i64 0]) rfl (by kernel_rfl)) ?_
         refine L.store (i := 2) sz61 rfl rfl rfl rfl (by simp [Value.oneCell', Value.cells, st]) rfl (Nat.le_of_ble_eq_true rfl) ?_
         refine L.nil (E.thenN (W.region (L.y rfl (Y.fieldP fd82_0 rfl) ?_)))
         refine L.y rfl (Y.loadP (i := 3) ag57 rfl rfl rfl) ?_
         refine L.y rfl (Y.loadPW (i := 2) ag61 sz61 rfl rfl rfl) ?_
         refine L.litAgg rfl Try.underlying57 el61 rfl rfl rfl ?_
         intro b32
         refine L.appM (i := 6) (g := TOp.row) (l := gl7) (more := [(⟨x6.Tx, 4, 0⟩ : TOp)]) h rfl Try.underlying57 el61 rfl rfl rfl (fun w hw => As.at_ (hw.get (i := 0) rfl)) (plain_TOp _) rfl ?_
         intro v33 l34 el34 h
         refine L.y rfl (Y.fieldP fd82_0 rfl) ?_
         refine L.storeV (i := 5) sz57 rfl rfl (fun _ hw => (As.at_ (hw.get (i := 0) rfl)).one) rfl (Nat.le_of_ble_eq_true rfl) ?_
         exact L.nil (E.blockN (E.joinJ ⟨v33, l34, v30, l31, rfl, rfl, h⟩ ⟨rfl, rfl, rfl, rfl, rfl, rfl, rfl, trivial⟩ (fun _ hw => hw.sel [5, 6, 0, 2] (by decide) rfl)))
    ·
     rintro _ _ ⟨gv10, gl11, gv12, gl13, rfl, rfl, h⟩
     rw [m45_quirref_Stamp_K2] at h
     refine W.region (L.m (V := fun x5 => .int .i64 x5) h rfl (Y.addM rfl rfl) (fun x5 ex5 h => ?_))
     refine L.y rfl (Y.move rfl) ?_
     exact L.nil (E.againJ ⟨x5, gv10, gl11, gv12, gl13, rfl, rfl, by rw [hg1]; exact h⟩ (Nat.lt_succ_self _) ⟨rfl, rfl, rfl, rfl, rfl, rfl, rfl, trivial⟩ (fun _ hw => hw))
   ·
    refine L.nil (E.thenN (W.seq (W.condF rfl ?_)))
    exact W.exit (E.thenX (E.KLX (E.blockX (E.joinJ ⟨gv6, gl7, gv8, gl9, rfl, rfl, h⟩ ⟨rfl, rfl, trivial⟩ (fun _ hw => hw)))))
  ·
   rintro _ _ ⟨gv1, gl2, gv3, gl4, rfl, rfl, h⟩
   rw [m45_quirref_Stamp_K1] at h
   refine W.seq (W.region (L.y rfl (Y.fieldP fd82_1 rfl) ?_))
   refine L.y rfl (Y.loadP (i := 0) ag36 rfl rfl rfl) ?_
   refine L.sortMD (i := 3) (l := gl4) h wSort rfl en152 rfl rfl ?_
   intro l3 el3 h
   refine L.nil (E.thenN (W.seq (W.region (L.y rfl (Y.loadPW (i := 0) ag82 sz82 rfl rfl rfl) ?_))))
   refine L.storeC (i := 1) sz82 rfl rfl rfl rfl (fun w hw => (all1 (As.at_ (hw.get (i := 2) rfl)).one (all1 (As.at_ (hw.get (i := 3) rfl)).one (all1 rfl all0)))) rfl (Nat.le_of_ble_eq_true rfl) ?_
   refine L.nil (E.thenN (W.ret (E.retR1 rfl (Rv.cellW (i := 1) ag82 sz82 rfl rfl rfl) (fun w1 hw => ?_))))
   obtain rfl := Option.some.inj h
   exact ⟨_, _, rfl, ⟨_, _, _, rfl, rfl⟩, (hw.nilSl 3 1).sel [3, 4, 0] (by decide) rfl⟩
set_option maxRecDepth 100000 in
set_option maxHeartbeats 8000000 in
theorem w7_quirlaw_StampPlays (a0 : (List TOp)) (a1 : Bool) (u0 : Value) (w : World) (r : Bool) (h : m7_quirlaw_StampPlays a0 a1 = some r) (hA0 : At w u0 3 (a0.map TOp.row)) : Does Try.prog 7 [u0, .bool a1] w fun u m => u = .bool r ∧ m = [] := by
  rw [m7_quirlaw_StampPlays] at h
  refine body (n := 35) Try.func7 rfl rfl rfl (Cls.refl w) ?_
  refine W.seq (W.region (L.y rfl (Y.assign rfl) ?_))
  refine L.nil (E.thenN (W.seq (W.region (L.y rfl (Y.move rfl) ?_))))
  refine L.y rfl (Y.move rfl) ?_
  obtain ⟨x1, x5, e6, h⟩ := bind2S h
  refine L.does rfl en42 rfl (fun w' hw => w42_stamp_Play a0 a1 u0 w' _ e6 (hA0.cls0 hw)) ?_
  rintro _ _ ⟨v2, v3, v4, rfl, rfl⟩
  refine L.y rfl (Y.move rfl) ?_
  refine L.y rfl (Y.extract rfl rfl) ?_
  refine L.y rfl (Y.extract rfl rfl) ?_
  refine L.alloc rfl ze82 ?_
  intro b7
  refine L.storeC (i := 0) sz82 rfl rfl rfl rfl (fun w hw => (all1 (As.at_ (hw.get (i := 1) rfl)).one (all1 (As.at_ (hw.get (i := 2) rfl)).one (all1 (As.at_ (hw.get (i := 3) rfl)).one all0)))) rfl (Nat.le_of_ble_eq_true rfl) ?_
  refine L.y rfl (Y.assign rfl) ?_
  refine L.nil (E.thenN (W.seqJ (fun gs D => gs = [(0, u0), (1, .bool a1), (5, pt b7 0), (6, .int .i64 x5)] ∧ D = Cls w [] [.obj b7 [v2, v3, v4] 82, .sl v2 61 3 (x1.Run.map TOp.row), .sl v3 3 1 (x1.Dead.map I), .sl v4 3 1 (x1.Late.map I)] ∧ m7_quirlaw_StampPlays_K1 a0 a1 x1 x5 = some r) ?_ ?_))
  ·
   refine W.seq (W.region (L.y rfl (Y.move rfl) ?_))
   obtain ⟨x22, e23, h⟩ := bind1S h
   refine L.y rfl (Y.does en43 rfl (fun w' hw => (w43_quirref_RunErr a0 u0 w' _ e23 (hA0.cls0 hw)).mono (fun _ _ h => h.1))) ?_
   refine L.y rfl (Y.assign rfl) ?_
   refine L.nil (E.thenN (W.seq (W.region (L.y rfl (Y.move rfl) ?_))))
   refine L.ite h rfl (Y.neq rfl rfl) (fun c24 h => ?_) (fun c24 h => ?_)
   ·
    refine L.nil (E.thenN (W.condT rfl ?_))
    refine W.seq (W.region (L.y rfl (Y.loadPW (i := 0) ag82 sz82 rfl rfl rfl) ?_))
    refine L.y rfl (Y.build (cells := #[.slice none 0 0, .slice none 0 0, .slice none 0 0]) rfl (by kernel_rfl)) ?_
    obtain ⟨b25, e26, h⟩ := bind1S h
    refine L.y rfl (Y.does en44 rfl (fun w' hw => (w44_quirref_SamePlayed x1 (⟨[], [], []⟩ : TPlayed) v2 v3 v4 (.slice none 0 0) (.slice none 0 0) (.slice none 0 0) w' _ e26 (As.at_ (hw.get (i := 1) rfl)) (As.at_ (hw.get (i := 2) rfl)) (As.at_ (hw.get (i := 3) rfl)) (At.nil w' _) (At.nil w' _) (At.nil w' _)).mono (fun _ _ h => h.1))) ?_
    rcases b25 with _ | _
    ·
     replace h := iteF h
     refine L.y rfl (Y.move rfl) ?_
     refine L.pass rfl rfl (by nofun) ?_
     refine L.pass rfl rfl (by nofun) ?_
     refine L.pass rfl rfl (by nofun) ?_
     refine L.y rfl (Y.pickF rfl rfl) ?_
     refine L.y rfl (Y.assign rfl) ?_
     refine L.nil (E.thenN (W.ret (E.KSR (E.ret1 rfl rfl (fun w1 hw => ?_)))))
     obtain rfl := Option.some.inj h
     exact ⟨_, _, rfl, ⟨rfl, rfl⟩, hw.sel [] (by decide) rfl⟩
    ·
     replace h := iteT h
     refine L.y rfl (Y.move rfl) ?_
     refine L.take rfl (L.y rfl (Y.move rfl) ?_)
     refine L.take rfl (L.y rfl (Y.move rfl) ?_)
     refine L.take rfl (L.y rfl (Y.eql rfl rfl) ?_)
     refine L.y rfl (Y.pickT rfl rfl) ?_
     refine L.y rfl (Y.assign rfl) ?_
     refine L.nil (E.thenN (W.ret (E.KSR (E.ret1 rfl rfl (fun w1 hw => ?_)))))
     obtain rfl := Option.some.inj h
     exact ⟨_, _, rfl, ⟨rfl, rfl⟩, hw.sel [] (by decide) rfl⟩
   ·
    refine L.nil (E.thenN (W.condF rfl ?_))
    exact W.skip (E.joinJ ⟨rfl, rfl, h⟩ ⟨rfl, rfl, rfl, rfl, trivial⟩ (fun _ hw => hw))
  ·
   rintro _ _ ⟨rfl, rfl, h⟩
   rw [m7_quirlaw_StampPlays_K1] at h
   refine W.seq (W.drawn2 (k := 10) (stC [[4]] [Cls w [] [.obj b7 [v2, v3, v4] 82, .sl v2 61 3 (x1.Run.map TOp.row), .sl v3 3 1 (x1.Dead.map I), .sl v4 3 1 (x1.Late.map I)]] (Cls w [] [.obj b7 [v2, v3, v4] 82, .sl v2 61 3 (x1.Run.map TOp.row), .sl v3 3 1 (x1.Dead.map I), .sl v4 3 1 (x1.Late.map I)])) rfl mixed (fun _ hw => hw.drew) (Sc.now (by kernel_rfl) (fun _ hw => hw)) ?_)
   refine V2.y (i := 0) (Nx2.of (Z := Cls w [] [.obj b7 [v2, v3, v4] 82, .sl v2 61 3 (x1.Run.map TOp.row), .sl v3 3 1 (x1.Dead.map I), .sl v4 3 1 (x1.Late.map I)]) [] (by kernel_rfl) rfl (Zc.on (fun _ hw => hw) (Zc.fin (fun _ hw => hw)))) rfl rfl rfl (Y.loadPW (i := 0) ag82 sz82 rfl rfl rfl) ?_
   refine V2.y (i := 1) (Nx2.of (Z := Cls w [] [.obj b7 [v2, v3, v4] 82, .sl v2 61 3 (x1.Run.map TOp.row), .sl v3 3 1 (x1.Dead.map I), .sl v4 3 1 (x1.Late.map I)]) [] (by kernel_rfl) rfl (Zc.on (fun _ hw => hw) (Zc.fin (fun _ hw => hw)))) rfl rfl rfl (Y.move rfl) ?_
   refine V2.y (i := 2) (Nx2.of (Z := Cls w [] [.obj b7 [v2, v3, v4] 82, .sl v2 61 3 (x1.Run.map TOp.row), .sl v3 3 1 (x1.Dead.map I), .sl v4 3 1 (x1.Late.map I)]) [] (by kernel_rfl) rfl (Zc.on (fun _ hw => hw) (Zc.fin (fun _ hw => hw)))) rfl rfl rfl (Y.move rfl) ?_
   refine V2.eff (i := 3) (by kernel_rfl) rfl ?_
   obtain ⟨x15, e19, h⟩ := bind1S h
   refine L.does rfl en45 rfl (fun w' hw => w45_quirref_Stamp a0 a1 u0 w' _ e19 (hA0.cls0 hw)) ?_
   rintro _ _ ⟨v16, v17, v18, rfl, rfl⟩
   refine L.nil (E.toV2 (stC [[4]] [Cls w [] [.sl v16 61 3 (x15.Run.map TOp.row), .sl v17 3 1 (x15.Dead.map I), .sl v18 3 1 (x15.Late.map I), .obj b7 [v2, v3, v4] 82, .sl v2 61 3 (x1.Run.map TOp.row), .sl v3 3 1 (x1.Dead.map I), .sl v4 3 1 (x1.Late.map I)]] (Cls w [] [.obj b7 [v2, v3, v4] 82, .sl v2 61 3 (x1.Run.map TOp.row), .sl v3 3 1 (x1.Dead.map I), .sl v4 3 1 (x1.Late.map I)])) 3 (by kernel_rfl) (Sc.stay (fun _ hw => hw.sel [3, 4, 5, 6] (by decide) rfl) (Sc.stayD (fun _ hw => hw))) (Sc.now (by kernel_rfl) (fun _ hw => hw)) ?_)
   refine V2.eff (i := 4) (by kernel_rfl) rfl ?_
   obtain ⟨b20, e21, h⟩ := bind1S h
   refine L.y rfl (Y.does en44 rfl (fun w' hw => (w44_quirref_SamePlayed x1 x15 v2 v3 v4 v16 v17 v18 w' _ e21 (As.at_ (hw.get (i := 4) rfl)) (As.at_ (hw.get (i := 5) rfl)) (As.at_ (hw.get (i := 6) rfl)) (As.at_ (hw.get (i := 0) rfl)) (As.at_ (hw.get (i := 1) rfl)) (As.at_ (hw.get (i := 2) rfl))).mono (fun _ _ h => h.1))) ?_
   rcases b20 with _ | _
   ·
    replace h := iteF h
    refine L.nil (E.toV2 (stC [] [] (Cls w [] [.obj b7 [v2, v3, v4] 82, .sl v2 61 3 (x1.Run.map TOp.row), .sl v3 3 1 (x1.Dead.map I), .sl v4 3 1 (x1.Late.map I)])) 4 (by kernel_rfl) (Sc.past rfl (Sc.stayD (fun _ hw => hw))) (Sc.atD (fun _ hw => hw.sel [3, 4, 5, 6] (by decide) rfl)) ?_)
    refine V2.y (i := 5) (Nx2.of (Z := Cls w [] [.obj b7 [v2, v3, v4] 82, .sl v2 61 3 (x1.Run.map TOp.row), .sl v3 3 1 (x1.Dead.map I), .sl v4 3 1 (x1.Late.map I)]) [] (by kernel_rfl) rfl (Zc.fin (fun _ hw => hw))) rfl rfl rfl (Y.move rfl) ?_
    refine V2.pass (i := 6) (Nx2.of (Z := Cls w [] [.obj b7 [v2, v3, v4] 82, .sl v2 61 3 (x1.Run.map TOp.row), .sl v3 3 1 (x1.Dead.map I), .sl v4 3 1 (x1.Late.map I)]) [] (by kernel_rfl) rfl (Zc.fin (fun _ hw => hw))) rfl rfl ?_
    refine V2.pass (i := 7) (Nx2.of (Z := Cls w [] [.obj b7 [v2, v3, v4] 82, .sl v2 61 3 (x1.Run.map TOp.row), .sl v3 3 1 (x1.Dead.map I), .sl v4 3 1 (x1.Late.map I)]) [] (by kernel_rfl) rfl (Zc.fin (fun _ hw => hw))) rfl rfl ?_
    refine V2.y (i := 8) (Nx2.of (Z := Cls w [] [.obj b7 [v2, v3, v4] 82, .sl v2 61 3 (x1.Run.map TOp.row), .sl v3 3 1 (x1.Dead.map I), .sl v4 3 1 (x1.Late.map I)]) [] (by kernel_rfl) rfl (Zc.fin (fun _ hw => hw))) rfl rfl rfl (Y.pickF rfl rfl) ?_
    refine V2.y (i := 9) (Nx2.of (Z := Cls w [] [.obj b7 [v2, v3, v4] 82, .sl v2 61 3 (x1.Run.map TOp.row), .sl v3 3 1 (x1.Dead.map I), .sl v4 3 1 (x1.Late.map I)]) [] (by kernel_rfl) rfl (Zc.fin (fun _ hw => hw))) rfl rfl rfl (Y.assign rfl) ?_
    refine V2.done (by kernel_rfl) ?_
    refine E.thenN (W.ret (E.ret1 rfl rfl (fun w1 hw => ?_)))
    obtain rfl := Option.some.inj h
    exact ⟨_, _, rfl, ⟨rfl, rfl⟩, hw.sel [] (by decide) rfl⟩
   ·
    replace h := iteT h
    refine L.nil (E.toV2 (stC [] [] (Cls w [] [.obj b7 [v2, v3, v4] 82, .sl v2 61 3 (x1.Run.map TOp.row), .sl v3 3 1 (x1.Dead.map I), .sl v4 3 1 (x1.Late.map I)])) 4 (by kernel_rfl) (Sc.past rfl (Sc.stayD (fun _ hw => hw))) (Sc.atD (fun _ hw => hw.sel [3, 4, 5, 6] (by decide) rfl)) ?_)
    refine V2.y (i := 5) (Nx2.of (Z := Cls w [] [.obj b7 [v2, v3, v4] 82, .sl v2 61 3 (x1.Run.map TOp.row), .sl v3 3 1 (x1.Dead.map I), .sl v4 3 1 (x1.Late.map I)]) [] (by kernel_rfl) rfl (Zc.fin (fun _ hw => hw))) rfl rfl rfl (Y.move rfl) ?_
    refine V2.y (i := 6) (Nx2.of (Z := Cls w [] [.obj b7 [v2, v3, v4] 82, .sl v2 61 3 (x1.Run.map TOp.row), .sl v3 3 1 (x1.Dead.map I), .sl v4 3 1 (x1.Late.map I)]) [] (by kernel_rfl) rfl (Zc.fin (fun _ hw => hw))) rfl rfl rfl (Y.move rfl) ?_
    refine V2.y (i := 7) (Nx2.of (Z := Cls w [] [.obj b7 [v2, v3, v4] 82, .sl v2 61 3 (x1.Run.map TOp.row), .sl v3 3 1 (x1.Dead.map I), .sl v4 3 1 (x1.Late.map I)]) [] (by kernel_rfl) rfl (Zc.fin (fun _ hw => hw))) rfl rfl rfl (Y.eql rfl rfl) ?_
    refine V2.y (i := 8) (Nx2.of (Z := Cls w [] [.obj b7 [v2, v3, v4] 82, .sl v2 61 3 (x1.Run.map TOp.row), .sl v3 3 1 (x1.Dead.map I), .sl v4 3 1 (x1.Late.map I)]) [] (by kernel_rfl) rfl (Zc.fin (fun _ hw => hw))) rfl rfl rfl (Y.pickT rfl rfl) ?_
    refine V2.y (i := 9) (Nx2.of (Z := Cls w [] [.obj b7 [v2, v3, v4] 82, .sl v2 61 3 (x1.Run.map TOp.row), .sl v3 3 1 (x1.Dead.map I), .sl v4 3 1 (x1.Late.map I)]) [] (by kernel_rfl) rfl (Zc.fin (fun _ hw => hw))) rfl rfl rfl (Y.assign rfl) ?_
    refine V2.done (by kernel_rfl) ?_
    refine E.thenN (W.ret (E.ret1 rfl rfl (fun w1 hw => ?_)))
    obtain rfl := Option.some.inj h
    exact ⟨_, _, rfl, ⟨rfl, rfl⟩, hw.sel [] (by decide) rfl⟩
end Go.Proofs.Ytjbajaofdgalfaa
