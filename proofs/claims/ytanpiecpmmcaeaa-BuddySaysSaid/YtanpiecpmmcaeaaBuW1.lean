/-
  Walks, printed by a program of mine.
  Conditions: none.
-/
import Derived.Test.YtanpiecpmmcaeaaBuM
import Derived.Test.YtanpiecpmmcaeaaChecked
import Derived.KernelRfl
import Derived.Test.YtanpiecpmmcaeaaBuO
namespace Go.Proofs.Ytanpiecpmmcaeaa
open Go.S
set_option linter.unusedVariables false
set_option linter.unusedSimpArgs false
theorem mixed : Try.prog.follows .mixedOrders = true := by kernel_rfl
theorem ag3 : aggB Try.prog 3 false = true := by kernel_rfl
theorem ag4 : aggB Try.prog 4 false = true := by kernel_rfl
theorem ag22 : aggB Try.prog 22 false = true := by kernel_rfl
theorem ag24 : aggB Try.prog 24 true = true := by kernel_rfl
theorem ag37 : aggB Try.prog 37 true = true := by kernel_rfl
theorem ag49 : aggB Try.prog 49 false = true := by kernel_rfl
theorem eL3 : elemB Try.prog 3 1 8 = true := by kernel_rfl
theorem eL4 : elemB Try.prog 4 1 1 = true := by kernel_rfl
theorem eL22 : elemB Try.prog 22 1 24 = true := by kernel_rfl
theorem eL37 : elemB Try.prog 37 2 16 = true := by kernel_rfl
theorem en4 : entB Try.prog 4 = true := by kernel_rfl
theorem en5 : entB Try.prog 5 = true := by kernel_rfl
theorem en6 : entB Try.prog 6 = true := by kernel_rfl
theorem en7 : entB Try.prog 7 = true := by kernel_rfl
theorem en8 : entB Try.prog 8 = true := by kernel_rfl
theorem en9 : entB Try.prog 9 = true := by kernel_rfl
theorem en10 : entB Try.prog 10 = true := by kernel_rfl
theorem en11 : entB Try.prog 11 = true := by kernel_rfl
theorem en12 : entB Try.prog 12 = true := by kernel_rfl
theorem en13 : entB Try.prog 13 = true := by kernel_rfl
theorem en14 : entB Try.prog 14 = true := by kernel_rfl
theorem en15 : entB Try.prog 15 = true := by kernel_rfl
theorem en16 : entB Try.prog 16 = true := by kernel_rfl
theorem en17 : entB Try.prog 17 = true := by kernel_rfl
theorem en18 : entB Try.prog 18 = true := by kernel_rfl
theorem en19 : entB Try.prog 19 = true := by kernel_rfl
theorem en20 : entB Try.prog 20 = true := by kernel_rfl
theorem en21 : entB Try.prog 21 = true := by kernel_rfl
theorem en22 : entB Try.prog 22 = true := by kernel_rfl
theorem en23 : entB Try.prog 23 = true := by kernel_rfl
theorem en24 : entB Try.prog 24 = true := by kernel_rfl
theorem en25 : entB Try.prog 25 = true := by kernel_rfl
theorem en30 : entB Try.prog 30 = true := by kernel_rfl
theorem en31 : entB Try.prog 31 = true := by kernel_rfl
theorem fd24_0 : fieldB Try.prog 24 0 0 = true := by kernel_rfl
theorem fd24_1 : fieldB Try.prog 24 1 1 = true := by kernel_rfl
theorem fd37_0 : fieldB Try.prog 37 0 0 = true := by kernel_rfl
theorem fd37_1 : fieldB Try.prog 37 1 1 = true := by kernel_rfl
theorem sz3 : szB Try.prog 3 1 = true := by kernel_rfl
theorem sz4 : szB Try.prog 4 1 = true := by kernel_rfl
theorem sz22 : szB Try.prog 22 1 = true := by kernel_rfl
theorem sz24 : szB Try.prog 24 2 = true := by kernel_rfl
theorem sz37 : szB Try.prog 37 2 = true := by kernel_rfl
theorem sz49 : szB Try.prog 49 1 = true := by kernel_rfl
theorem ze3 : zeroB Try.prog 3 = some [.int .i64 0] := by kernel_rfl
theorem ze4 : zeroB Try.prog 4 = some [.bool false] := by kernel_rfl
theorem ze24 : zeroB Try.prog 24 = some [.int .i64 0, .slice none 0 0] := by kernel_rfl
theorem ze37 : zeroB Try.prog 37 = some [.int .i64 0, .int .i64 0] := by kernel_rfl
theorem ze49 : zeroB Try.prog 49 = some [.slice none 0 0] := by kernel_rfl
theorem plain_TBlock (l : List TBlock) : Plain (l.map TBlock.row) := by
  intro r hr u hu
  obtain ⟨x, _, rfl⟩ := List.mem_map.1 hr
  simp only [TBlock.row, List.mem_cons, List.not_mem_nil, or_false] at hu
  rcases hu with rfl | rfl <;> rfl
theorem eg37 : Try.prog.eqGuardType Try.prog.depth 37 = false := by kernel_rfl
theorem sh37 (x : TBlock) : shB Try.prog 5 37 x.row = true := by kernel_rfl
theorem inj37 (x y : TBlock) (h : x.row = y.row) : x = y := by
  cases x; cases y
  simpa [TBlock.row, st_inj] using h
set_option maxRecDepth 100000 in
set_option maxHeartbeats 8000000 in
theorem w4_quirref_BuddyErr (a0 : TBuddy) (u0_0 : Value) (w : World) (r : Int) (h : m4_quirref_BuddyErr a0 = some r) (hA0_0 : At w u0_0 2 (a0.Taken.map TBlock.row)) : Does Try.prog 4 [.agg #[.int .i64 a0.Order, u0_0]] w fun u m => u = .int .i64 r ∧ m = [] := by
  rw [m4_quirref_BuddyErr] at h
  refine body (n := 89) Try.func4 rfl rfl rfl (Cls.refl w) ?_
  refine W.seq (W.region (L.box rfl rfl ?_))
  intro b1
  refine L.y rfl (Y.assign rfl) ?_
  refine L.nil (E.thenN (W.seqJ (fun gs D => gs = [(1, pt b1 0)] ∧ D = Cls w [] [.obj b1 [.int .i64 a0.Order, u0_0] 24] ∧ m4_quirref_BuddyErr_K1 a0 = some r) ?_ ?_))
  ·
   refine W.seq (W.region (L.y rfl (Y.fieldP fd24_0 rfl) ?_))
   refine L.y rfl (Y.loadP (i := 0) ag3 rfl rfl rfl) ?_
   refine L.ite h rfl (Y.lss rfl rfl) (fun c26 h => ?_) (fun c26 h => ?_)
   ·
    refine L.y rfl (Y.move rfl) ?_
    refine L.pass rfl rfl (by nofun) ?_
    refine L.pass rfl rfl (by nofun) ?_
    refine L.pass rfl rfl (by nofun) ?_
    refine L.y rfl (Y.pickT rfl rfl) ?_
    refine L.nil (E.thenN (W.condT rfl ?_))
    refine W.seq (W.region (L.y rfl (Y.assign rfl) ?_))
    refine L.nil (E.thenN (W.ret (E.KSR (E.ret1 rfl rfl (fun w1 hw => ?_)))))
    obtain rfl := Option.some.inj h
    exact ⟨_, _, rfl, ⟨rfl, rfl⟩, hw.sel [] (by decide) rfl⟩
   ·
    refine L.y rfl (Y.move rfl) ?_
    refine L.take rfl (L.y rfl (Y.fieldP fd24_0 rfl) ?_)
    refine L.take rfl (L.y rfl (Y.loadP (i := 0) ag3 rfl rfl rfl) ?_)
    refine L.take rfl (L.ite h rfl (Y.gtr rfl rfl) (fun c27 h => ?_) (fun c27 h => ?_))
    ·
     refine L.y rfl (Y.pickF rfl rfl) ?_
     refine L.nil (E.thenN (W.condT rfl ?_))
     refine W.seq (W.region (L.y rfl (Y.assign rfl) ?_))
     refine L.nil (E.thenN (W.ret (E.KSR (E.ret1 rfl rfl (fun w1 hw => ?_)))))
     obtain rfl := Option.some.inj h
     exact ⟨_, _, rfl, ⟨rfl, rfl⟩, hw.sel [] (by decide) rfl⟩
    ·
     refine L.y rfl (Y.pickF rfl rfl) ?_
     refine L.nil (E.thenN (W.condF rfl ?_))
     exact W.skip (E.joinJ ⟨rfl, rfl, h⟩ ⟨rfl, trivial⟩ (fun _ hw => hw))
  ·
   rintro _ _ ⟨rfl, rfl, h⟩
   rw [m4_quirref_BuddyErr_K1] at h
   refine W.seq (W.region (L.y rfl (Y.fieldP fd24_0 rfl) ?_))
   refine L.y rfl (Y.loadP (i := 0) ag3 rfl rfl rfl) ?_
   refine L.m (V := fun x2 => .int .i64 x2) h rfl (Y.shlM rfl rfl) (fun x2 ex2 h => ?_)
   refine L.y rfl (Y.assign rfl) ?_
   refine L.nil (E.thenN (W.seq (W.region (L.y rfl (Y.move rfl) ?_))))
   obtain ⟨l3, el3, h⟩ := bind1S h
   refine L.makeE (row := I) (z0 := 0) el3 rfl Try.underlying44 eL3 ze3 rfl rfl rfl ?_
   intro b4
   refine L.y rfl (Y.assign rfl) ?_
   refine L.nil (E.thenN (W.seq (W.region (L.y rfl (Y.assign rfl) ?_))))
   refine L.nil (E.thenN (W.seqJ (fun gs D => gs = [] ∧ D = Cls w [] [] ∧ m4_quirref_BuddyErr_K2 = some r) ?_ ?_))
   ·
    refine W.seq (W.region (L.y rfl (Y.fieldP fd24_1 rfl) ?_))
    refine L.y rfl (Y.loadP (i := 1) ag22 rfl rfl rfl) ?_
    refine L.y rfl (Y.lenM (g := TBlock.row) (l := a0.Taken) Try.underlying22 rfl (fun w' hw => hA0_0.cls0 hw)) ?_
    refine L.y rfl (Y.move rfl) ?_
    refine L.nil (E.thenN (W.block (W.loopJ (fun m gs D => ∃ (gl1 : (List Int)) (gx2 : Int) (gx3 : Int), gs = [(1, pt b1 0), (3, .int .i64 x2), (4, (sv b4 x2.toNat)), (5, .int .i64 gx2), (23, u0_0), (24, .int .i64 (a0.Taken.length : Int)), (25, .int .i64 gx3)] ∧ D = Cls w [] [.obj b1 [.int .i64 a0.Order, u0_0] 24, .sl (sv b4 x2.toNat) 3 1 (gl1.map I)] ∧ m4_quirref_BuddyErr_L1 a0 x2 m gl1 gx2 gx3 = some r) ⟨l3, (-1), 0, rfl, rfl, h⟩ ⟨rfl, rfl, rfl, rfl, rfl, rfl, rfl, trivial⟩ (fun _ hw => hw.sel [1, 0] (by decide) rfl) ?_)))
    rintro m _ _ ⟨gl1, gx2, gx3, rfl, rfl, h⟩
    rcases m with _ | m
    · rw [m4_quirref_BuddyErr_L1] at h; cases h
    rw [m4_quirref_BuddyErr_L1] at h
    generalize hg1 : m4_quirref_BuddyErr_L1 a0 x2 m = go1 at h
    rw [m4_quirref_BuddyErr_L1B] at h
    refine W.seq (W.region (L.ite h rfl (Y.lss rfl rfl) (fun c5 h => ?_) (fun c5 h => ?_)))
    ·
     refine L.nil (E.thenN (W.seq (W.condT rfl ?_)))
     refine W.skip (E.thenN (W.seqJ (fun gs D => ∃ (gl4 : (List Int)) (gx5 : Int), gs = [(1, pt b1 0), (3, .int .i64 x2), (4, (sv b4 x2.toNat)), (5, .int .i64 gx5), (23, u0_0), (24, .int .i64 (a0.Taken.length : Int)), (25, .int .i64 gx3)] ∧ D = Cls w [] [.obj b1 [.int .i64 a0.Order, u0_0] 24, .sl (sv b4 x2.toNat) 3 1 (gl4.map I)] ∧ m4_quirref_BuddyErr_K3 gx3 go1 gl4 gx5 = some r) ?_ ?_))
     ·
      refine W.block (W.seq (W.region (L.m (V := fun _ => el u0_0 (gx3.toNat * 2)) h rfl (Y.indexM (g := TBlock.row) (l := a0.Taken) Try.underlying22 sz37 rfl rfl (fun w' hw => hA0_0.cls0 hw)) (fun x7 ex7 h => ?_))))
      refine L.y rfl (Y.loadEN (r := [.int .i64 x7.At, .int .i64 x7.Order]) ag37 sz37 rfl (fun w' hw => hA0_0.cls0 hw) (idx_map ex7) rfl) ?_
      refine L.alloc rfl ze37 ?_
      intro b8
      refine L.store (i := 0) (vs := [.int .i64 x7.At, .int .i64 x7.Order]) sz37 rfl rfl rfl rfl (by simp [Value.oneCell', Value.cells, st, pt]) rfl (Nat.le_of_ble_eq_true rfl) ?_
      refine L.nil (E.thenN (W.seqJ (fun gs D => gs = [(1, pt b1 0), (3, .int .i64 x2), (4, (sv b4 x2.toNat)), (7, pt b8 0), (23, u0_0), (24, .int .i64 (a0.Taken.length : Int)), (25, .int .i64 gx3)] ∧ D = Cls w [] [.obj b8 [.int .i64 x7.At, .int .i64 x7.Order] 37, .obj b1 [.int .i64 a0.Order, u0_0] 24, .sl (sv b4 x2.toNat) 3 1 (gl1.map I)] ∧ m4_quirref_BuddyErr_K4 x7 gx3 go1 gl1 = some r) ?_ ?_))
      ·
       refine W.seq (W.quietC mixed (by kernel_rfl) (fun _ hw => hw.drew) (fun hC => ?_))
       refine U.cutJ hC 10 (fun gs => ∃ (gb9 : Bool), gs = [(1, pt b1 0), (3, .int .i64 x2), (4, (sv b4 x2.toNat)), (5, .int .i64 gx2), (7, pt b8 0), (23, u0_0), (24, .int .i64 (a0.Taken.length : Int)), (25, .int .i64 gx3), (38, .bool gb9)] ∧ m4_quirref_BuddyErr_K6 x7 gx2 gx3 go1 gl1 x2 gb9 = some r) ?_ ?_
       ·
        refine U.y rfl (Y.fieldP fd37_1 rfl) ?_
        refine U.y rfl (Y.loadP (i := 0) ag3 rfl rfl rfl) ?_
        refine U.ite h rfl (Y.lss rfl rfl) (fun c24 h => ?_) (fun c24 h => ?_)
        ·
         refine U.y rfl (Y.move rfl) ?_
         refine U.pass rfl rfl (by nofun) ?_
         refine U.pass rfl rfl (by nofun) ?_
         refine U.pass rfl rfl (by nofun) ?_
         refine U.pass rfl rfl (by nofun) ?_
         refine U.pass rfl rfl (by nofun) ?_
         refine U.y rfl (Y.pickT rfl rfl) ?_
         exact U.nil (E.joinU ⟨true, rfl, h⟩ ⟨rfl, rfl, rfl, rfl, rfl, rfl, rfl, rfl, rfl, trivial⟩)
        ·
         refine U.y rfl (Y.move rfl) ?_
         refine U.take rfl (U.y rfl (Y.fieldP fd37_1 rfl) ?_)
         refine U.take rfl (U.y rfl (Y.loadP (i := 0) ag3 rfl rfl rfl) ?_)
         refine U.take rfl (U.y rfl (Y.fieldP fd24_0 rfl) ?_)
         refine U.take rfl (U.y rfl (Y.loadP (i := 1) ag3 rfl rfl rfl) ?_)
         refine U.take rfl (U.ite h rfl (Y.gtr rfl rfl) (fun c25 h => ?_) (fun c25 h => ?_))
         ·
          refine U.y rfl (Y.pickF rfl rfl) ?_
          exact U.nil (E.joinU ⟨true, rfl, h⟩ ⟨rfl, rfl, rfl, rfl, rfl, rfl, rfl, rfl, rfl, trivial⟩)
         ·
          refine U.y rfl (Y.pickF rfl rfl) ?_
          exact U.nil (E.joinU ⟨false, rfl, h⟩ ⟨rfl, rfl, rfl, rfl, rfl, rfl, rfl, rfl, rfl, trivial⟩)
       ·
        rintro _ ⟨gb9, rfl, h⟩
        rw [m4_quirref_BuddyErr_K6] at h
        rcases gb9 with _ | _
        ·
         replace h := iteF h
         refine U.cutJ hC 11 (fun gs => ∃ (gb10 : Bool), gs = [(1, pt b1 0), (3, .int .i64 x2), (4, (sv b4 x2.toNat)), (5, .int .i64 gx2), (7, pt b8 0), (23, u0_0), (24, .int .i64 (a0.Taken.length : Int)), (25, .int .i64 gx3), (49, .bool gb10)] ∧ m4_quirref_BuddyErr_K7 x7 gx2 gx3 go1 gl1 gb10 = some r) ?_ ?_
         ·
          refine U.y rfl (Y.move rfl) ?_
          refine U.take rfl (U.y rfl (Y.fieldP fd37_0 rfl) ?_)
          refine U.take rfl (U.y rfl (Y.loadP (i := 0) ag3 rfl rfl rfl) ?_)
          refine U.take rfl (U.ite h rfl (Y.lss rfl rfl) (fun c22 h => ?_) (fun c22 h => ?_))
          ·
           refine U.y rfl (Y.pickF rfl rfl) ?_
           refine U.y rfl (Y.move rfl) ?_
           refine U.pass rfl rfl (by nofun) ?_
           refine U.pass rfl rfl (by nofun) ?_
           refine U.pass rfl rfl (by nofun) ?_
           refine U.pass rfl rfl (by nofun) ?_
           refine U.y rfl (Y.pickT rfl rfl) ?_
           exact U.nil (E.joinU ⟨true, rfl, h⟩ ⟨rfl, rfl, rfl, rfl, rfl, rfl, rfl, rfl, rfl, trivial⟩)
          ·
           refine U.y rfl (Y.pickF rfl rfl) ?_
           refine U.y rfl (Y.move rfl) ?_
           refine U.take rfl (U.y rfl (Y.fieldP fd37_0 rfl) ?_)
           refine U.take rfl (U.y rfl (Y.loadP (i := 0) ag3 rfl rfl rfl) ?_)
           refine U.take rfl (U.y rfl (Y.move rfl) ?_)
           refine U.take rfl (U.ite h rfl (Y.geq rfl rfl) (fun c23 h => ?_) (fun c23 h => ?_))
           ·
            refine U.y rfl (Y.pickF rfl rfl) ?_
            exact U.nil (E.joinU ⟨true, rfl, h⟩ ⟨rfl, rfl, rfl, rfl, rfl, rfl, rfl, rfl, rfl, trivial⟩)
           ·
            refine U.y rfl (Y.pickF rfl rfl) ?_
            exact U.nil (E.joinU ⟨false, rfl, h⟩ ⟨rfl, rfl, rfl, rfl, rfl, rfl, rfl, rfl, rfl, trivial⟩)
         ·
          rintro _ ⟨gb10, rfl, h⟩
          rw [m4_quirref_BuddyErr_K7] at h
          rcases gb10 with _ | _
          ·
           replace h := iteF h
           refine U.y rfl (Y.move rfl) ?_
           refine U.take rfl (U.y rfl (Y.fieldP fd37_0 rfl) ?_)
           refine U.take rfl (U.y rfl (Y.loadP (i := 0) ag3 rfl rfl rfl) ?_)
           refine U.take rfl (U.y rfl (Y.fieldP fd37_1 rfl) ?_)
           refine U.take rfl (U.y rfl (Y.loadP (i := 0) ag3 rfl rfl rfl) ?_)
           refine U.take rfl (U.m (V := fun x18 => .int .i64 x18) h rfl (Y.shlM rfl rfl) (fun x18 ex18 h => ?_))
           refine U.take rfl (U.m (V := fun x19 => .int .i64 x19) h rfl (Y.remM rfl rfl) (fun x19 ex19 h => ?_))
           refine U.take rfl (U.ite h rfl (Y.neq rfl rfl) (fun c20 h => ?_) (fun c20 h => ?_))
           ·
            refine U.y rfl (Y.pickF rfl rfl) ?_
            refine U.y rfl (Y.move rfl) ?_
            refine U.pass rfl rfl (by nofun) ?_
            refine U.pass rfl rfl (by nofun) ?_
            refine U.pass rfl rfl (by nofun) ?_
            refine U.pass rfl rfl (by nofun) ?_
            refine U.y rfl (Y.pickT rfl rfl) ?_
            refine U.nil (E.thenN (W.condT rfl ?_))
            refine W.seq (W.region (L.y rfl (Y.assign rfl) ?_))
            refine L.nil (E.thenN (W.ret (E.KSR (E.blockR (E.KSR (E.KLR (E.blockR (E.KSR (E.ret1 rfl rfl (fun w1 hw => ?_))))))))))
            obtain rfl := Option.some.inj h
            exact ⟨_, _, rfl, ⟨rfl, rfl⟩, hw.sel [] (by decide) rfl⟩
           ·
            refine U.y rfl (Y.pickF rfl rfl) ?_
            refine U.y rfl (Y.move rfl) ?_
            refine U.take rfl (U.y rfl (Y.fieldP fd37_0 rfl) ?_)
            refine U.take rfl (U.y rfl (Y.loadP (i := 0) ag3 rfl rfl rfl) ?_)
            refine U.take rfl (U.y rfl (Y.move rfl) ?_)
            refine U.take rfl (U.ite h rfl (Y.leq rfl rfl) (fun c21 h => ?_) (fun c21 h => ?_))
            ·
             refine U.y rfl (Y.pickF rfl rfl) ?_
             refine U.nil (E.thenN (W.condT rfl ?_))
             refine W.seq (W.region (L.y rfl (Y.assign rfl) ?_))
             refine L.nil (E.thenN (W.ret (E.KSR (E.blockR (E.KSR (E.KLR (E.blockR (E.KSR (E.ret1 rfl rfl (fun w1 hw => ?_))))))))))
             obtain rfl := Option.some.inj h
             exact ⟨_, _, rfl, ⟨rfl, rfl⟩, hw.sel [] (by decide) rfl⟩
            ·
             refine U.y rfl (Y.pickF rfl rfl) ?_
             refine U.nil (E.thenN (W.condF rfl ?_))
             exact W.skip (E.joinJ ⟨rfl, rfl, h⟩ ⟨rfl, rfl, rfl, rfl, rfl, rfl, rfl, trivial⟩ (fun _ hw => hw))
          ·
           replace h := iteT h
           refine U.y rfl (Y.move rfl) ?_
           refine U.pass rfl rfl (by nofun) ?_
           refine U.pass rfl rfl (by nofun) ?_
           refine U.pass rfl rfl (by nofun) ?_
           refine U.pass rfl rfl (by nofun) ?_
           refine U.pass rfl rfl (by nofun) ?_
           refine U.pass rfl rfl (by nofun) ?_
           refine U.pass rfl rfl (by nofun) ?_
           refine U.y rfl (Y.pickT rfl rfl) ?_
           refine U.y rfl (Y.move rfl) ?_
           refine U.pass rfl rfl (by nofun) ?_
           refine U.pass rfl rfl (by nofun) ?_
           refine U.pass rfl rfl (by nofun) ?_
           refine U.pass rfl rfl (by nofun) ?_
           refine U.y rfl (Y.pickT rfl rfl) ?_
           refine U.nil (E.thenN (W.condT rfl ?_))
           refine W.seq (W.region (L.y rfl (Y.assign rfl) ?_))
           refine L.nil (E.thenN (W.ret (E.KSR (E.blockR (E.KSR (E.KLR (E.blockR (E.KSR (E.ret1 rfl rfl (fun w1 hw => ?_))))))))))
           obtain rfl := Option.some.inj h
           exact ⟨_, _, rfl, ⟨rfl, rfl⟩, hw.sel [] (by decide) rfl⟩
        ·
         replace h := iteT h
         refine U.y rfl (Y.move rfl) ?_
         refine U.pass rfl rfl (by nofun) ?_
         refine U.pass rfl rfl (by nofun) ?_
         refine U.pass rfl rfl (by nofun) ?_
         refine U.y rfl (Y.pickT rfl rfl) ?_
         refine U.y rfl (Y.move rfl) ?_
         refine U.pass rfl rfl (by nofun) ?_
         refine U.pass rfl rfl (by nofun) ?_
         refine U.pass rfl rfl (by nofun) ?_
         refine U.pass rfl rfl (by nofun) ?_
         refine U.y rfl (Y.pickT rfl rfl) ?_
         refine U.y rfl (Y.move rfl) ?_
         refine U.pass rfl rfl (by nofun) ?_
         refine U.pass rfl rfl (by nofun) ?_
         refine U.pass rfl rfl (by nofun) ?_
         refine U.pass rfl rfl (by nofun) ?_
         refine U.pass rfl rfl (by nofun) ?_
         refine U.pass rfl rfl (by nofun) ?_
         refine U.pass rfl rfl (by nofun) ?_
         refine U.y rfl (Y.pickT rfl rfl) ?_
         refine U.y rfl (Y.move rfl) ?_
         refine U.pass rfl rfl (by nofun) ?_
         refine U.pass rfl rfl (by nofun) ?_
         refine U.pass rfl rfl (by nofun) ?_
         refine U.pass rfl rfl (by nofun) ?_
         refine U.y rfl (Y.pickT rfl rfl) ?_
         refine U.nil (E.thenN (W.condT rfl ?_))
         refine W.seq (W.region (L.y rfl (Y.assign rfl) ?_))
         refine L.nil (E.thenN (W.ret (E.KSR (E.blockR (E.KSR (E.KLR (E.blockR (E.KSR (E.ret1 rfl rfl (fun w1 hw => ?_))))))))))
         obtain rfl := Option.some.inj h
         exact ⟨_, _, rfl, ⟨rfl, rfl⟩, hw.sel [] (by decide) rfl⟩
      ·
       rintro _ _ ⟨rfl, rfl, h⟩
       rw [m4_quirref_BuddyErr_K4] at h
       refine W.seqJ (fun gs D => ∃ (gl6 : (List Int)), gs = [(1, pt b1 0), (3, .int .i64 x2), (4, (sv b4 x2.toNat)), (7, pt b8 0), (23, u0_0), (24, .int .i64 (a0.Taken.length : Int)), (25, .int .i64 gx3)] ∧ D = Cls w [] [.obj b8 [.int .i64 x7.At, .int .i64 x7.Order] 37, .obj b1 [.int .i64 a0.Order, u0_0] 24, .sl (sv b4 x2.toNat) 3 1 (gl6.map I)] ∧ m4_quirref_BuddyErr_K5 gx3 go1 x7 gl6 = some r) ?_ ?_
       ·
        refine W.seq (W.region (L.y rfl (Y.fieldP fd37_1 rfl) ?_))
        refine L.y rfl (Y.loadP (i := 0) ag3 rfl rfl rfl) ?_
        refine L.m (V := fun x9 => .int .i64 x9) h rfl (Y.shlM rfl rfl) (fun x9 ex9 h => ?_)
        refine L.y rfl (Y.move rfl) ?_
        refine L.nil (E.thenN (W.block (W.loopJ (fun m gs D => ∃ (gl7 : (List Int)) (gx8 : Int), gs = [(1, pt b1 0), (3, .int .i64 x2), (4, (sv b4 x2.toNat)), (7, pt b8 0), (23, u0_0), (24, .int .i64 (a0.Taken.length : Int)), (25, .int .i64 gx3), (67, .int .i64 x9), (68, .int .i64 gx8)] ∧ D = Cls w [] [.obj b8 [.int .i64 x7.At, .int .i64 x7.Order] 37, .obj b1 [.int .i64 a0.Order, u0_0] 24, .sl (sv b4 x2.toNat) 3 1 (gl7.map I)] ∧ m4_quirref_BuddyErr_L2 x9 x7 gx3 go1 m gl7 gx8 = some r) ⟨gl1, 0, rfl, rfl, h⟩ ⟨rfl, rfl, rfl, rfl, rfl, rfl, rfl, rfl, rfl, trivial⟩ (fun _ hw => hw) ?_)))
        rintro m _ _ ⟨gl7, gx8, rfl, rfl, h⟩
        rcases m with _ | m
        · rw [m4_quirref_BuddyErr_L2] at h; cases h
        rw [m4_quirref_BuddyErr_L2] at h
        generalize hg2 : m4_quirref_BuddyErr_L2 x9 x7 gx3 go1 m = go2 at h
        rw [m4_quirref_BuddyErr_L2B] at h
        refine W.seq (W.region (L.ite h rfl (Y.lss rfl rfl) (fun c10 h => ?_) (fun c10 h => ?_)))
        ·
         refine L.nil (E.thenN (W.seq (W.condT rfl ?_)))
         refine W.skip (E.thenN (W.seq (W.block (W.seq (W.region (L.y rfl (Y.move rfl) ?_))))))
         refine L.y rfl (Y.assign rfl) ?_
         refine L.nil (E.thenN (W.seq (W.seq (W.region (L.y rfl (Y.move rfl) ?_)))))
         refine L.y rfl (Y.fieldP fd37_0 rfl) ?_
         refine L.y rfl (Y.loadP (i := 0) ag3 rfl rfl rfl) ?_
         refine L.y rfl (Y.move rfl) ?_
         refine L.m (V := fun x11 => .int .i64 x11) h rfl (Y.addM rfl rfl) (fun x11 ex11 h => ?_)
         refine L.m (V := fun _ => el (sv b4 x2.toNat) (x11.toNat * 1)) h rfl (Y.indexM (g := I) (l := gl7) Try.underlying44 sz3 rfl rfl (fun w hw => As.at_ (hw.get (i := 2) rfl))) (fun x12 ex12 h => ?_)
         refine L.y rfl (Y.loadE1 (u := .int .i64 x12) ag3 rfl (fun w hw => As.at_ (hw.get (i := 2) rfl)) (idx_map ex12)) ?_
         refine L.ite h rfl (Y.gtr rfl rfl) (fun c13 h => ?_) (fun c13 h => ?_)
         ·
          refine L.nil (E.thenN (W.condT rfl ?_))
          refine W.seq (W.region (L.y rfl (Y.assign rfl) ?_))
          refine L.nil (E.thenN (W.ret (E.thenR (E.blockR (E.thenR (E.KLR (E.blockR (E.KSR (E.blockR (E.KSR (E.KLR (E.blockR (E.KSR (E.ret1 rfl rfl (fun w1 hw => ?_)))))))))))))))
          obtain rfl := Option.some.inj h
          exact ⟨_, _, rfl, ⟨rfl, rfl⟩, hw.sel [] (by decide) rfl⟩
         ·
          refine L.nil (E.thenN (W.condF rfl ?_))
          refine W.skip (E.thenN (W.region (L.y rfl (Y.move rfl) ?_)))
          refine L.y rfl (Y.fieldP fd37_0 rfl) ?_
          refine L.y rfl (Y.loadP (i := 0) ag3 rfl rfl rfl) ?_
          refine L.y rfl (Y.move rfl) ?_
          refine L.m (V := fun x14 => .int .i64 x14) h rfl (Y.addM rfl rfl) (fun x14 ex14 h => ?_)
          refine L.m (V := fun _ => el (sv b4 x2.toNat) (x14.toNat * 1)) h rfl (Y.indexM (g := I) (l := gl7) Try.underlying44 sz3 rfl rfl (fun w hw => As.at_ (hw.get (i := 2) rfl))) (fun x15 ex15 h => ?_)
          refine L.storeSlM (q := 2) (row := I) (vs := [.int .i64 1]) (j := 0) (u1 := 1) h sz3 rfl rfl rfl rfl rfl (all1 rfl all0) rfl ex15 rfl rfl ?_
          intro l16 el16 h
          refine L.nil (E.blockN (E.thenN (W.region (L.m (V := fun x17 => .int .i64 x17) h rfl (Y.addM rfl rfl) (fun x17 ex17 h => ?_)))))
          refine L.y rfl (Y.move rfl) ?_
          exact L.nil (E.againJ ⟨l16, x17, rfl, rfl, by rw [hg2]; exact h⟩ (Nat.lt_succ_self _) ⟨rfl, rfl, rfl, rfl, rfl, rfl, rfl, rfl, rfl, trivial⟩ (fun _ hw => hw))
        ·
         refine L.nil (E.thenN (W.seq (W.condF rfl ?_)))
         exact W.exit (E.thenX (E.KLX (E.blockX (E.joinJ ⟨gl7, rfl, rfl, h⟩ ⟨rfl, rfl, rfl, rfl, rfl, rfl, rfl, trivial⟩ (fun _ hw => hw)))))
       ·
        rintro _ _ ⟨gl6, rfl, rfl, h⟩
        rw [m4_quirref_BuddyErr_K5] at h
        refine W.region (L.y rfl (Y.fieldP fd37_0 rfl) ?_)
        refine L.y rfl (Y.loadP (i := 0) ag3 rfl rfl rfl) ?_
        refine L.y rfl (Y.assign rfl) ?_
        exact L.nil (E.blockN (E.joinJ ⟨gl6, x7.At, rfl, rfl, h⟩ ⟨rfl, rfl, rfl, rfl, rfl, rfl, rfl, trivial⟩ (fun _ hw => hw.sel [1, 2] (by decide) rfl)))
     ·
      rintro _ _ ⟨gl4, gx5, rfl, rfl, h⟩
      rw [m4_quirref_BuddyErr_K3] at h
      refine W.region (L.m (V := fun x6 => .int .i64 x6) h rfl (Y.addM rfl rfl) (fun x6 ex6 h => ?_))
      refine L.y rfl (Y.move rfl) ?_
      exact L.nil (E.againJ ⟨gl4, gx5, x6, rfl, rfl, by rw [hg1]; exact h⟩ (Nat.lt_succ_self _) ⟨rfl, rfl, rfl, rfl, rfl, rfl, rfl, trivial⟩ (fun _ hw => hw))
    ·
     refine L.nil (E.thenN (W.seq (W.condF rfl ?_)))
     exact W.exit (E.thenX (E.KLX (E.blockX (E.joinJ ⟨rfl, rfl, h⟩ trivial (fun _ hw => hw.sel [] (by decide) rfl)))))
   ·
    rintro _ _ ⟨rfl, rfl, h⟩
    rw [m4_quirref_BuddyErr_K2] at h
    refine W.seq (W.region (L.y rfl (Y.assign rfl) ?_))
    refine L.nil (E.thenN (W.ret (E.ret1 rfl rfl (fun w1 hw => ?_))))
    obtain rfl := Option.some.inj h
    exact ⟨_, _, rfl, ⟨rfl, rfl⟩, hw⟩
set_option maxRecDepth 100000 in
set_option maxHeartbeats 8000000 in
theorem w8_buddy_Check (a0 : TBuddy) (u0_0 : Value) (w : World) (r : Int) (h : m8_buddy_Check a0 = some r) (hA0_0 : At w u0_0 2 (a0.Taken.map TBlock.row)) : Does Try.prog 8 [.agg #[.int .i64 a0.Order, u0_0]] w fun u m => u = .int .i64 r ∧ m = [] := by
  rw [m8_buddy_Check] at h
  refine body (n := 65) Try.func8 rfl rfl rfl (Cls.refl w) ?_
  refine W.seq (W.region (L.box rfl rfl ?_))
  intro b1
  refine L.y rfl (Y.assign rfl) ?_
  refine L.nil (E.thenN (W.seqJ (fun gs D => gs = [(1, pt b1 0)] ∧ D = Cls w [] [.obj b1 [.int .i64 a0.Order, u0_0] 24] ∧ m8_buddy_Check_K1 a0 = some r) ?_ ?_))
  ·
   refine W.seq (W.region (L.y rfl (Y.fieldP fd24_0 rfl) ?_))
   refine L.y rfl (Y.loadP (i := 0) ag3 rfl rfl rfl) ?_
   refine L.ite h rfl (Y.lss rfl rfl) (fun c18 h => ?_) (fun c18 h => ?_)
   ·
    refine L.y rfl (Y.move rfl) ?_
    refine L.pass rfl rfl (by nofun) ?_
    refine L.pass rfl rfl (by nofun) ?_
    refine L.pass rfl rfl (by nofun) ?_
    refine L.y rfl (Y.pickT rfl rfl) ?_
    refine L.nil (E.thenN (W.condT rfl ?_))
    refine W.seq (W.region (L.y rfl (Y.assign rfl) ?_))
    refine L.nil (E.thenN (W.ret (E.KSR (E.ret1 rfl rfl (fun w1 hw => ?_)))))
    obtain rfl := Option.some.inj h
    exact ⟨_, _, rfl, ⟨rfl, rfl⟩, hw.sel [] (by decide) rfl⟩
   ·
    refine L.y rfl (Y.move rfl) ?_
    refine L.take rfl (L.y rfl (Y.fieldP fd24_0 rfl) ?_)
    refine L.take rfl (L.y rfl (Y.loadP (i := 0) ag3 rfl rfl rfl) ?_)
    refine L.take rfl (L.ite h rfl (Y.gtr rfl rfl) (fun c19 h => ?_) (fun c19 h => ?_))
    ·
     refine L.y rfl (Y.pickF rfl rfl) ?_
     refine L.nil (E.thenN (W.condT rfl ?_))
     refine W.seq (W.region (L.y rfl (Y.assign rfl) ?_))
     refine L.nil (E.thenN (W.ret (E.KSR (E.ret1 rfl rfl (fun w1 hw => ?_)))))
     obtain rfl := Option.some.inj h
     exact ⟨_, _, rfl, ⟨rfl, rfl⟩, hw.sel [] (by decide) rfl⟩
    ·
     refine L.y rfl (Y.pickF rfl rfl) ?_
     refine L.nil (E.thenN (W.condF rfl ?_))
     exact W.skip (E.joinJ ⟨rfl, rfl, h⟩ ⟨rfl, trivial⟩ (fun _ hw => hw))
  ·
   rintro _ _ ⟨rfl, rfl, h⟩
   rw [m8_buddy_Check_K1] at h
   refine W.seq (W.region (L.y rfl (Y.assign rfl) ?_))
   refine L.nil (E.thenN (W.seqJ (fun gs D => gs = [] ∧ D = Cls w [] [] ∧ m8_buddy_Check_K2 = some r) ?_ ?_))
   ·
    refine W.seq (W.region (L.y rfl (Y.fieldP fd24_1 rfl) ?_))
    refine L.y rfl (Y.loadP (i := 0) ag22 rfl rfl rfl) ?_
    refine L.y rfl (Y.lenM (g := TBlock.row) (l := a0.Taken) Try.underlying22 rfl (fun w' hw => hA0_0.cls0 hw)) ?_
    refine L.y rfl (Y.move rfl) ?_
    refine L.nil (E.thenN (W.block (W.loopJ (fun m gs D => ∃ (gx1 : Int) (gx2 : Int), gs = [(1, pt b1 0), (3, .int .i64 gx1), (15, u0_0), (16, .int .i64 (a0.Taken.length : Int)), (17, .int .i64 gx2)] ∧ D = Cls w [] [.obj b1 [.int .i64 a0.Order, u0_0] 24] ∧ m8_buddy_Check_L1 a0 m gx1 gx2 = some r) ⟨0, 0, rfl, rfl, h⟩ ⟨rfl, rfl, rfl, rfl, rfl, trivial⟩ (fun _ hw => hw) ?_)))
    rintro m _ _ ⟨gx1, gx2, rfl, rfl, h⟩
    rcases m with _ | m
    · rw [m8_buddy_Check_L1] at h; cases h
    rw [m8_buddy_Check_L1] at h
    generalize hg1 : m8_buddy_Check_L1 a0 m = go1 at h
    rw [m8_buddy_Check_L1B] at h
    refine W.seq (W.region (L.ite h rfl (Y.lss rfl rfl) (fun c2 h => ?_) (fun c2 h => ?_)))
    ·
     refine L.nil (E.thenN (W.seq (W.condT rfl ?_)))
     refine W.skip (E.thenN (W.seq (W.block (W.seq (W.region (L.m (V := fun _ => el u0_0 (gx2.toNat * 2)) h rfl (Y.indexM (g := TBlock.row) (l := a0.Taken) Try.underlying22 sz37 rfl rfl (fun w' hw => hA0_0.cls0 hw)) (fun x3 ex3 h => ?_)))))))
     refine L.y rfl (Y.loadEN (r := [.int .i64 x3.At, .int .i64 x3.Order]) ag37 sz37 rfl (fun w' hw => hA0_0.cls0 hw) (idx_map ex3) rfl) ?_
     refine L.alloc rfl ze37 ?_
     intro b4
     refine L.store (i := 0) (vs := [.int .i64 x3.At, .int .i64 x3.Order]) sz37 rfl rfl rfl rfl (by simp [Value.oneCell', Value.cells, st, pt]) rfl (Nat.le_of_ble_eq_true rfl) ?_
     refine L.nil (E.thenN (W.seq (W.seq (W.quietC mixed (by kernel_rfl) (fun _ hw => hw.drew) (fun hC => ?_)))))
     refine U.cutJ hC 10 (fun gs => ∃ (gb3 : Bool), gs = [(1, pt b1 0), (3, .int .i64 gx1), (5, pt b4 0), (15, u0_0), (16, .int .i64 (a0.Taken.length : Int)), (17, .int .i64 gx2), (30, .bool gb3)] ∧ m8_buddy_Check_K3 x3 gx1 a0 gx2 go1 gb3 = some r) ?_ ?_
     ·
      refine U.y rfl (Y.fieldP fd37_1 rfl) ?_
      refine U.y rfl (Y.loadP (i := 0) ag3 rfl rfl rfl) ?_
      refine U.ite h rfl (Y.lss rfl rfl) (fun c16 h => ?_) (fun c16 h => ?_)
      ·
       refine U.y rfl (Y.move rfl) ?_
       refine U.pass rfl rfl (by nofun) ?_
       refine U.pass rfl rfl (by nofun) ?_
       refine U.pass rfl rfl (by nofun) ?_
       refine U.pass rfl rfl (by nofun) ?_
       refine U.pass rfl rfl (by nofun) ?_
       refine U.y rfl (Y.pickT rfl rfl) ?_
       exact U.nil (E.joinU ⟨true, rfl, h⟩ ⟨rfl, rfl, rfl, rfl, rfl, rfl, rfl, trivial⟩)
      ·
       refine U.y rfl (Y.move rfl) ?_
       refine U.take rfl (U.y rfl (Y.fieldP fd37_1 rfl) ?_)
       refine U.take rfl (U.y rfl (Y.loadP (i := 0) ag3 rfl rfl rfl) ?_)
       refine U.take rfl (U.y rfl (Y.fieldP fd24_0 rfl) ?_)
       refine U.take rfl (U.y rfl (Y.loadP (i := 1) ag3 rfl rfl rfl) ?_)
       refine U.take rfl (U.ite h rfl (Y.gtr rfl rfl) (fun c17 h => ?_) (fun c17 h => ?_))
       ·
        refine U.y rfl (Y.pickF rfl rfl) ?_
        exact U.nil (E.joinU ⟨true, rfl, h⟩ ⟨rfl, rfl, rfl, rfl, rfl, rfl, rfl, trivial⟩)
       ·
        refine U.y rfl (Y.pickF rfl rfl) ?_
        exact U.nil (E.joinU ⟨false, rfl, h⟩ ⟨rfl, rfl, rfl, rfl, rfl, rfl, rfl, trivial⟩)
     ·
      rintro _ ⟨gb3, rfl, h⟩
      rw [m8_buddy_Check_K3] at h
      rcases gb3 with _ | _
      ·
       replace h := iteF h
       refine U.cutJ hC 15 (fun gs => ∃ (gb4 : Bool), gs = [(1, pt b1 0), (5, pt b4 0), (15, u0_0), (16, .int .i64 (a0.Taken.length : Int)), (17, .int .i64 gx2), (45, .bool gb4)] ∧ m8_buddy_Check_K4 a0 x3 gx2 go1 gb4 = some r) ?_ ?_
       ·
        refine U.y rfl (Y.move rfl) ?_
        refine U.take rfl (U.y rfl (Y.fieldP fd37_0 rfl) ?_)
        refine U.take rfl (U.y rfl (Y.loadP (i := 0) ag3 rfl rfl rfl) ?_)
        refine U.take rfl (U.y rfl (Y.move rfl) ?_)
        refine U.take rfl (U.ite h rfl (Y.lss rfl rfl) (fun c12 h => ?_) (fun c12 h => ?_))
        ·
         refine U.y rfl (Y.pickF rfl rfl) ?_
         refine U.y rfl (Y.move rfl) ?_
         refine U.pass rfl rfl (by nofun) ?_
         refine U.pass rfl rfl (by nofun) ?_
         refine U.pass rfl rfl (by nofun) ?_
         refine U.pass rfl rfl (by nofun) ?_
         refine U.pass rfl rfl (by nofun) ?_
         refine U.pass rfl rfl (by nofun) ?_
         refine U.pass rfl rfl (by nofun) ?_
         refine U.y rfl (Y.pickT rfl rfl) ?_
         exact U.nil (E.joinU ⟨true, rfl, h⟩ ⟨rfl, rfl, rfl, rfl, rfl, rfl, trivial⟩)
        ·
         refine U.y rfl (Y.pickF rfl rfl) ?_
         refine U.y rfl (Y.move rfl) ?_
         refine U.take rfl (U.y rfl (Y.fieldP fd37_0 rfl) ?_)
         refine U.take rfl (U.y rfl (Y.loadP (i := 0) ag3 rfl rfl rfl) ?_)
         refine U.take rfl (U.y rfl (Y.fieldP fd37_1 rfl) ?_)
         refine U.take rfl (U.y rfl (Y.loadP (i := 0) ag3 rfl rfl rfl) ?_)
         refine U.take rfl (U.m (V := fun x13 => .int .i64 x13) h rfl (Y.shlM rfl rfl) (fun x13 ex13 h => ?_))
         refine U.take rfl (U.m (V := fun x14 => .int .i64 x14) h rfl (Y.remM rfl rfl) (fun x14 ex14 h => ?_))
         refine U.take rfl (U.ite h rfl (Y.neq rfl rfl) (fun c15 h => ?_) (fun c15 h => ?_))
         ·
          refine U.y rfl (Y.pickF rfl rfl) ?_
          exact U.nil (E.joinU ⟨true, rfl, h⟩ ⟨rfl, rfl, rfl, rfl, rfl, rfl, trivial⟩)
         ·
          refine U.y rfl (Y.pickF rfl rfl) ?_
          exact U.nil (E.joinU ⟨false, rfl, h⟩ ⟨rfl, rfl, rfl, rfl, rfl, rfl, trivial⟩)
       ·
        rintro _ ⟨gb4, rfl, h⟩
        rw [m8_buddy_Check_K4] at h
        rcases gb4 with _ | _
        ·
         replace h := iteF h
         refine U.y rfl (Y.move rfl) ?_
         refine U.take rfl (U.y rfl (Y.fieldP fd37_0 rfl) ?_)
         refine U.take rfl (U.y rfl (Y.loadP (i := 0) ag3 rfl rfl rfl) ?_)
         refine U.take rfl (U.y rfl (Y.fieldP fd24_0 rfl) ?_)
         refine U.take rfl (U.y rfl (Y.loadP (i := 1) ag3 rfl rfl rfl) ?_)
         refine U.take rfl (U.m (V := fun x5 => .int .i64 x5) h rfl (Y.shlM rfl rfl) (fun x5 ex5 h => ?_))
         refine U.take rfl (U.y rfl (Y.fieldP fd37_1 rfl) ?_)
         refine U.take rfl (U.y rfl (Y.loadP (i := 0) ag3 rfl rfl rfl) ?_)
         refine U.take rfl (U.m (V := fun x6 => .int .i64 x6) h rfl (Y.shlM rfl rfl) (fun x6 ex6 h => ?_))
         refine U.take rfl (U.m (V := fun x7 => .int .i64 x7) h rfl (Y.subM rfl rfl) (fun x7 ex7 h => ?_))
         refine U.take rfl (U.ite h rfl (Y.gtr rfl rfl) (fun c8 h => ?_) (fun c8 h => ?_))
         ·
          refine U.y rfl (Y.pickF rfl rfl) ?_
          refine U.nil (E.thenN (W.condT rfl ?_))
          refine W.seq (W.region (L.y rfl (Y.assign rfl) ?_))
          refine L.nil (E.thenN (W.ret (E.thenR (E.blockR (E.thenR (E.KLR (E.blockR (E.KSR (E.ret1 rfl rfl (fun w1 hw => ?_))))))))))
          obtain rfl := Option.some.inj h
          exact ⟨_, _, rfl, ⟨rfl, rfl⟩, hw.sel [] (by decide) rfl⟩
         ·
          refine U.y rfl (Y.pickF rfl rfl) ?_
          refine U.nil (E.thenN (W.condF rfl ?_))
          refine W.skip (E.thenN (W.quietC mixed (by kernel_rfl) (fun _ hw => hw.drew) (fun hC => ?_)))
          refine U.y rfl (Y.fieldP fd37_0 rfl) ?_
          refine U.y rfl (Y.loadP (i := 0) ag3 rfl rfl rfl) ?_
          refine U.y rfl (Y.fieldP fd37_1 rfl) ?_
          refine U.y rfl (Y.loadP (i := 0) ag3 rfl rfl rfl) ?_
          refine U.m (V := fun x9 => .int .i64 x9) h rfl (Y.shlM rfl rfl) (fun x9 ex9 h => ?_)
          refine U.m (V := fun x10 => .int .i64 x10) h rfl (Y.addM rfl rfl) (fun x10 ex10 h => ?_)
          refine U.y rfl (Y.assign rfl) ?_
          refine U.nil (E.blockN (E.thenN (W.region (L.m (V := fun x11 => .int .i64 x11) h rfl (Y.addM rfl rfl) (fun x11 ex11 h => ?_)))))
          refine L.y rfl (Y.move rfl) ?_
          exact L.nil (E.againJ ⟨x10, x11, rfl, rfl, by rw [hg1]; exact h⟩ (Nat.lt_succ_self _) ⟨rfl, rfl, rfl, rfl, rfl, trivial⟩ (fun _ hw => hw.sel [1] (by decide) rfl))
        ·
         replace h := iteT h
         refine U.y rfl (Y.move rfl) ?_
         refine U.pass rfl rfl (by nofun) ?_
         refine U.pass rfl rfl (by nofun) ?_
         refine U.pass rfl rfl (by nofun) ?_
         refine U.pass rfl rfl (by nofun) ?_
         refine U.pass rfl rfl (by nofun) ?_
         refine U.pass rfl rfl (by nofun) ?_
         refine U.pass rfl rfl (by nofun) ?_
         refine U.pass rfl rfl (by nofun) ?_
         refine U.pass rfl rfl (by nofun) ?_
         refine U.pass rfl rfl (by nofun) ?_
         refine U.y rfl (Y.pickT rfl rfl) ?_
         refine U.nil (E.thenN (W.condT rfl ?_))
         refine W.seq (W.region (L.y rfl (Y.assign rfl) ?_))
         refine L.nil (E.thenN (W.ret (E.thenR (E.blockR (E.thenR (E.KLR (E.blockR (E.KSR (E.ret1 rfl rfl (fun w1 hw => ?_))))))))))
         obtain rfl := Option.some.inj h
         exact ⟨_, _, rfl, ⟨rfl, rfl⟩, hw.sel [] (by decide) rfl⟩
      ·
       replace h := iteT h
       refine U.y rfl (Y.move rfl) ?_
       refine U.pass rfl rfl (by nofun) ?_
       refine U.pass rfl rfl (by nofun) ?_
       refine U.pass rfl rfl (by nofun) ?_
       refine U.pass rfl rfl (by nofun) ?_
       refine U.y rfl (Y.pickT rfl rfl) ?_
       refine U.y rfl (Y.move rfl) ?_
       refine U.pass rfl rfl (by nofun) ?_
       refine U.pass rfl rfl (by nofun) ?_
       refine U.pass rfl rfl (by nofun) ?_
       refine U.pass rfl rfl (by nofun) ?_
       refine U.pass rfl rfl (by nofun) ?_
       refine U.pass rfl rfl (by nofun) ?_
       refine U.pass rfl rfl (by nofun) ?_
       refine U.y rfl (Y.pickT rfl rfl) ?_
       refine U.y rfl (Y.move rfl) ?_
       refine U.pass rfl rfl (by nofun) ?_
       refine U.pass rfl rfl (by nofun) ?_
       refine U.pass rfl rfl (by nofun) ?_
       refine U.pass rfl rfl (by nofun) ?_
       refine U.pass rfl rfl (by nofun) ?_
       refine U.pass rfl rfl (by nofun) ?_
       refine U.pass rfl rfl (by nofun) ?_
       refine U.pass rfl rfl (by nofun) ?_
       refine U.pass rfl rfl (by nofun) ?_
       refine U.pass rfl rfl (by nofun) ?_
       refine U.y rfl (Y.pickT rfl rfl) ?_
       refine U.nil (E.thenN (W.condT rfl ?_))
       refine W.seq (W.region (L.y rfl (Y.assign rfl) ?_))
       refine L.nil (E.thenN (W.ret (E.thenR (E.blockR (E.thenR (E.KLR (E.blockR (E.KSR (E.ret1 rfl rfl (fun w1 hw => ?_))))))))))
       obtain rfl := Option.some.inj h
       exact ⟨_, _, rfl, ⟨rfl, rfl⟩, hw.sel [] (by decide) rfl⟩
    ·
     refine L.nil (E.thenN (W.seq (W.condF rfl ?_)))
     exact W.exit (E.thenX (E.KLX (E.blockX (E.joinJ ⟨rfl, rfl, h⟩ trivial (fun _ hw => hw.sel [] (by decide) rfl)))))
   ·
    rintro _ _ ⟨rfl, rfl, h⟩
    rw [m8_buddy_Check_K2] at h
    refine W.seq (W.region (L.y rfl (Y.assign rfl) ?_))
    refine L.nil (E.thenN (W.ret (E.ret1 rfl rfl (fun w1 hw => ?_))))
    obtain rfl := Option.some.inj h
    exact ⟨_, _, rfl, ⟨rfl, rfl⟩, hw⟩
set_option maxRecDepth 100000 in
set_option maxHeartbeats 8000000 in
theorem w17_buddy_freeR : ∀ (n : Nat) (a0 : (List TBlock)) (a1 : Int) (a2 : Int) (u0 : Value) (w : World) (r : (List TBlock)) (h : m17_buddy_freeR n a0 a1 a2 = some r) (hA0 : At w u0 2 (a0.map TBlock.row)), Does Try.prog 17 [u0, .int .i64 a1, .int .i64 a2] w fun u m => ∃ v0, u = v0 ∧ m = [.sl v0 37 2 (r.map TBlock.row)] := by
  intro n
  induction n with
  | zero => intro a0 a1 a2 u0 w r h hA0; rw [m17_buddy_freeR] at h; cases h
  | succ n ih =>
  intro a0 a1 a2 u0 w r h hA0
  rw [m17_buddy_freeR] at h
  generalize m17_buddy_freeR n = rec at h ih
  rw [m17_buddy_freeB] at h
  refine body (n := 72) Try.func17 rfl rfl rfl (Cls.refl w) ?_
  refine W.seq (W.region (L.y rfl (Y.assign rfl) ?_))
  refine L.nil (E.thenN (W.seq (W.region (L.y rfl (Y.move rfl) ?_))))
  refine L.y rfl (Y.move rfl) ?_
  refine L.m (V := fun x1 => .int .i64 x1) h rfl (Y.shlM rfl rfl) (fun x1 ex1 h => ?_)
  refine L.m (V := fun x2 => .int .i64 x2) h rfl (Y.addM rfl rfl) (fun x2 ex2 h => ?_)
  refine L.y rfl (Y.assign rfl) ?_
  refine L.nil (E.thenN (W.seq (W.region (L.y rfl (Y.assign rfl) ?_))))
  refine L.nil (E.thenN (W.seqJ (fun gs D => ∃ (gv1 : Value) (gl2 : (List TBlock)), gs = [(1, .int .i64 a1), (2, .int .i64 a2), (8, gv1)] ∧ D = Cls w [] [.sl gv1 37 2 (gl2.map TBlock.row)] ∧ m17_buddy_free_K1 a1 a2 rec gl2 = some r) ?_ ?_))
  ·
   refine W.seq (W.region (L.y rfl (Y.move rfl) ?_))
   refine L.y rfl (Y.lenM (g := TBlock.row) (l := a0) Try.underlying22 rfl (fun w' hw => hA0.cls0 hw)) ?_
   refine L.y rfl (Y.move rfl) ?_
   refine L.nil (E.thenN (W.block (W.nilSl 37 2 ?_)))
   refine W.loopJ (fun m gs D => ∃ (gv3 : Value) (gl4 : (List TBlock)) (gx5 : Int), gs = [(1, .int .i64 a1), (2, .int .i64 a2), (7, .int .i64 x2), (8, gv3), (16, u0), (17, .int .i64 (a0.length : Int)), (18, .int .i64 gx5)] ∧ D = Cls w [] [.sl gv3 37 2 (gl4.map TBlock.row)] ∧ m17_buddy_free_L1 a0 x2 a1 a2 rec m gl4 gx5 = some r) ⟨.slice none 0 0, [], 0, rfl, rfl, h⟩ ⟨rfl, rfl, rfl, rfl, rfl, rfl, rfl, trivial⟩ (fun _ hw => hw) ?_
   rintro m _ _ ⟨gv3, gl4, gx5, rfl, rfl, h⟩
   rcases m with _ | m
   · rw [m17_buddy_free_L1] at h; cases h
   rw [m17_buddy_free_L1] at h
   generalize hg1 : m17_buddy_free_L1 a0 x2 a1 a2 rec m = go1 at h
   rw [m17_buddy_free_L1B] at h
   refine W.seq (W.region (L.ite h rfl (Y.lss rfl rfl) (fun c20 h => ?_) (fun c20 h => ?_)))
   ·
    refine L.nil (E.thenN (W.seq (W.condT rfl ?_)))
    refine W.skip (E.thenN (W.seq (W.block (W.seq (W.region (L.m (V := fun _ => el u0 (gx5.toNat * 2)) h rfl (Y.indexM (g := TBlock.row) (l := a0) Try.underlying22 sz37 rfl rfl (fun w' hw => hA0.cls0 hw)) (fun x21 ex21 h => ?_)))))))
    refine L.y rfl (Y.loadEN (r := [.int .i64 x21.At, .int .i64 x21.Order]) ag37 sz37 rfl (fun w' hw => hA0.cls0 hw) (idx_map ex21) rfl) ?_
    refine L.alloc rfl ze37 ?_
    intro b22
    refine L.store (i := 0) (vs := [.int .i64 x21.At, .int .i64 x21.Order]) sz37 rfl rfl rfl rfl (by simp [Value.oneCell', Value.cells, st, pt]) rfl (Nat.le_of_ble_eq_true rfl) ?_
    refine L.nil (E.thenN (W.seq (W.quietC mixed (by kernel_rfl) (fun _ hw => hw.drew) (fun hC => ?_))))
    refine U.y rfl (Y.fieldP fd37_0 rfl) ?_
    refine U.y rfl (Y.loadP (i := 0) ag3 rfl rfl rfl) ?_
    refine U.y rfl (Y.move rfl) ?_
    refine U.ite h rfl (Y.lss rfl rfl) (fun c23 h => ?_) (fun c23 h => ?_)
    ·
     refine U.y rfl (Y.move rfl) ?_
     refine U.take rfl (U.y rfl (Y.fieldP fd37_0 rfl) ?_)
     refine U.take rfl (U.y rfl (Y.loadP (i := 0) ag3 rfl rfl rfl) ?_)
     refine U.take rfl (U.y rfl (Y.fieldP fd37_1 rfl) ?_)
     refine U.take rfl (U.y rfl (Y.loadP (i := 0) ag3 rfl rfl rfl) ?_)
     refine U.take rfl (U.m (V := fun x24 => .int .i64 x24) h rfl (Y.shlM rfl rfl) (fun x24 ex24 h => ?_))
     refine U.take rfl (U.m (V := fun x25 => .int .i64 x25) h rfl (Y.addM rfl rfl) (fun x25 ex25 h => ?_))
     refine U.take rfl (U.y rfl (Y.move rfl) ?_)
     refine U.take rfl (U.ite h rfl (Y.gtr rfl rfl) (fun c26 h => ?_) (fun c26 h => ?_))
     ·
      refine U.y rfl (Y.pickT rfl rfl) ?_
      refine U.nil (E.thenN (W.condT rfl ?_))
      refine W.region (L.y rfl (Y.move rfl) ?_)
      refine L.y rfl (Y.loadPW (i := 0) ag37 sz37 rfl rfl rfl) ?_
      refine L.litAgg rfl Try.underlying22 eL37 rfl rfl rfl ?_
      intro b27
      refine L.appM (i := 2) (g := TBlock.row) (l := gl4) (more := [x21]) h rfl Try.underlying22 eL37 rfl rfl rfl (fun w hw => As.at_ (hw.get (i := 0) rfl)) (plain_TBlock _) rfl ?_
      intro v28 l29 el29 h
      refine L.y rfl (Y.assign rfl) ?_
      refine L.nil (E.blockN (E.thenN (W.region (L.m (V := fun x30 => .int .i64 x30) h rfl (Y.addM rfl rfl) (fun x30 ex30 h => ?_)))))
      refine L.y rfl (Y.move rfl) ?_
      exact L.nil (E.againJ ⟨v28, l29, x30, rfl, rfl, by rw [hg1]; exact h⟩ (Nat.lt_succ_self _) ⟨rfl, rfl, rfl, rfl, rfl, rfl, rfl, trivial⟩ (fun _ hw => hw.sel [0] (by decide) rfl))
     ·
      refine U.y rfl (Y.pickT rfl rfl) ?_
      refine U.nil (E.thenN (W.condF rfl ?_))
      refine W.skip (E.blockN (E.thenN (W.region (L.m (V := fun x31 => .int .i64 x31) h rfl (Y.addM rfl rfl) (fun x31 ex31 h => ?_)))))
      refine L.y rfl (Y.move rfl) ?_
      exact L.nil (E.againJ ⟨gv3, gl4, x31, rfl, rfl, by rw [hg1]; exact h⟩ (Nat.lt_succ_self _) ⟨rfl, rfl, rfl, rfl, rfl, rfl, rfl, trivial⟩ (fun _ hw => hw.sel [1] (by decide) rfl))
    ·
     refine U.y rfl (Y.move rfl) ?_
     refine U.pass rfl rfl (by nofun) ?_
     refine U.pass rfl rfl (by nofun) ?_
     refine U.pass rfl rfl (by nofun) ?_
     refine U.pass rfl rfl (by nofun) ?_
     refine U.pass rfl rfl (by nofun) ?_
     refine U.pass rfl rfl (by nofun) ?_
     refine U.pass rfl rfl (by nofun) ?_
     refine U.pass rfl rfl (by nofun) ?_
     refine U.y rfl (Y.pickF rfl rfl) ?_
     refine U.nil (E.thenN (W.condF rfl ?_))
     refine W.skip (E.blockN (E.thenN (W.region (L.m (V := fun x32 => .int .i64 x32) h rfl (Y.addM rfl rfl) (fun x32 ex32 h => ?_)))))
     refine L.y rfl (Y.move rfl) ?_
     exact L.nil (E.againJ ⟨gv3, gl4, x32, rfl, rfl, by rw [hg1]; exact h⟩ (Nat.lt_succ_self _) ⟨rfl, rfl, rfl, rfl, rfl, rfl, rfl, trivial⟩ (fun _ hw => hw.sel [1] (by decide) rfl))
   ·
    refine L.nil (E.thenN (W.seq (W.condF rfl ?_)))
    exact W.exit (E.thenX (E.KLX (E.blockX (E.joinJ ⟨gv3, gl4, rfl, rfl, h⟩ ⟨rfl, rfl, rfl, trivial⟩ (fun _ hw => hw)))))
  ·
   rintro _ _ ⟨gv1, gl2, rfl, rfl, h⟩
   rw [m17_buddy_free_K1] at h
   refine W.seqJ (fun gs D => gs = [(1, .int .i64 a1), (2, .int .i64 a2), (8, gv1)] ∧ D = Cls w [] [.sl gv1 37 2 (gl2.map TBlock.row)] ∧ m17_buddy_free_K2 a2 rec gl2 a1 = some r) ?_ ?_
   ·
    refine W.block (W.seq (W.region (L.y rfl (Y.move rfl) ?_)))
    refine L.y rfl (Y.lenM (g := TBlock.row) (l := gl2) Try.underlying22 rfl (fun w hw => As.at_ (hw.get (i := 0) rfl))) ?_
    refine L.ite h rfl (Y.eql rfl rfl) (fun c16 h => ?_) (fun c16 h => ?_)
    ·
     refine L.y rfl (Y.assign rfl) ?_
     refine L.nil (E.thenN (W.condT rfl ?_))
     refine W.seq (W.region (L.y rfl (Y.move rfl) ?_))
     refine L.y rfl (Y.move rfl) ?_
     refine L.y rfl (Y.build (cells := #[.int .i64 a1, .int .i64 a2]) rfl (by kernel_rfl)) ?_
     refine L.litAgg rfl Try.underlying22 eL37 rfl rfl rfl ?_
     intro b17
     refine L.y rfl (Y.assign rfl) ?_
     refine L.nil (E.thenN (W.ret (E.blockR (E.KSR (E.ret1 rfl rfl (fun w1 hw => ?_))))))
     obtain rfl := Option.some.inj h
     exact ⟨_, _, rfl, ⟨_, rfl, rfl⟩, hw.sel [0] (by decide) rfl⟩
    ·
     refine L.y rfl (Y.assign rfl) ?_
     refine L.nil (E.thenN (W.condF rfl ?_))
     refine W.seq (W.region (L.y rfl (Y.move rfl) ?_))
     refine L.m (V := fun _ => el gv1 ((0 : Int).toNat * 2)) h rfl (Y.indexM (g := TBlock.row) (l := gl2) Try.underlying22 sz37 rfl rfl (fun w hw => As.at_ (hw.get (i := 0) rfl))) (fun x18 ex18 h => ?_)
     refine L.y rfl (Y.fieldE fd37_1 rfl) ?_
     refine L.y rfl (Y.loadE (u := .int .i64 x18.Order) ag3 rfl (fun w hw => As.at_ (hw.get (i := 0) rfl)) (idx_map ex18) rfl) ?_
     refine L.y rfl (Y.move rfl) ?_
     refine L.ite h rfl (Y.geq rfl rfl) (fun c19 h => ?_) (fun c19 h => ?_)
     ·
      refine L.y rfl (Y.assign rfl) ?_
      refine L.nil (E.thenN (W.condT rfl ?_))
      refine W.seq (W.region (L.y rfl (Y.assign rfl) ?_))
      refine L.nil (E.thenN (W.ret (E.blockR (E.KSR (E.ret1 rfl rfl (fun w1 hw => ?_))))))
      obtain rfl := Option.some.inj h
      exact ⟨_, _, rfl, ⟨_, rfl, rfl⟩, (hw.nilSl 37 2).sel [0] (by decide) rfl⟩
     ·
      refine L.y rfl (Y.assign rfl) ?_
      refine L.nil (E.thenN (W.condF rfl ?_))
      exact W.skip (E.blockN (E.joinJ ⟨rfl, rfl, h⟩ ⟨rfl, rfl, rfl, trivial⟩ (fun _ hw => hw)))
   ·
    rintro _ _ ⟨rfl, rfl, h⟩
    rw [m17_buddy_free_K2] at h
    refine W.seq (W.region (L.y rfl (Y.move rfl) ?_))
    refine L.m (V := fun x3 => .int .i64 x3) h rfl (Y.subM rfl rfl) (fun x3 ex3 h => ?_)
    refine L.m (V := fun x4 => .int .i64 x4) h rfl (Y.shlM rfl rfl) (fun x4 ex4 h => ?_)
    refine L.y rfl (Y.assign rfl) ?_
    refine L.nil (E.thenN (W.seq (W.region (L.y rfl (Y.move rfl) ?_))))
    refine L.y rfl (Y.move rfl) ?_
    refine L.y rfl (Y.move rfl) ?_
    refine L.m (V := fun x5 => .int .i64 x5) h rfl (Y.subM rfl rfl) (fun x5 ex5 h => ?_)
    obtain ⟨l6, e8, h⟩ := bind1S h
    refine L.does rfl en17 rfl (fun w' hw => ih gl2 a1 x5 gv1 w' _ e8 (As.at_ (hw.get (i := 0) rfl))) ?_
    rintro v7 _ ⟨_, rfl, rfl⟩
    refine L.y rfl (Y.move rfl) ?_
    refine L.y rfl (Y.move rfl) ?_
    refine L.y rfl (Y.move rfl) ?_
    refine L.m (V := fun x9 => .int .i64 x9) h rfl (Y.addM rfl rfl) (fun x9 ex9 h => ?_)
    refine L.y rfl (Y.move rfl) ?_
    refine L.m (V := fun x10 => .int .i64 x10) h rfl (Y.subM rfl rfl) (fun x10 ex10 h => ?_)
    obtain ⟨l11, e13, h⟩ := bind1S h
    refine L.does rfl en17 rfl (fun w' hw => ih gl2 x9 x10 gv1 w' _ e13 (As.at_ (hw.get (i := 1) rfl))) ?_
    rintro v12 _ ⟨_, rfl, rfl⟩
    refine L.appM (i := 1) (g := TBlock.row) (l := l6) (more := l11) h rfl Try.underlying22 eL37 rfl rfl rfl (fun w hw => As.at_ (hw.get (i := 0) rfl)) (plain_TBlock _) rfl ?_
    intro v14 l15 el15 h
    refine L.y rfl (Y.assign rfl) ?_
    refine L.nil (E.thenN (W.ret (E.ret1 rfl rfl (fun w1 hw => ?_))))
    obtain rfl := Option.some.inj h
    exact ⟨_, _, rfl, ⟨_, rfl, rfl⟩, hw.sel [0] (by decide) rfl⟩
theorem w17_buddy_free (a0 : (List TBlock)) (a1 : Int) (a2 : Int) (u0 : Value) (w : World) (r : (List TBlock)) (h : m17_buddy_free a0 a1 a2 = some r) (hA0 : At w u0 2 (a0.map TBlock.row)) : Does Try.prog 17 [u0, .int .i64 a1, .int .i64 a2] w fun u m => ∃ v0, u = v0 ∧ m = [.sl v0 37 2 (r.map TBlock.row)] := w17_buddy_freeR big a0 a1 a2 u0 w r h hA0
set_option maxRecDepth 100000 in
set_option maxHeartbeats 8000000 in
theorem w5_buddy_Free (a0 : TBuddy) (u0_0 : Value) (w : World) (r : ((List TBlock) × Int)) (h : m5_buddy_Free a0 = some r) (hA0_0 : At w u0_0 2 (a0.Taken.map TBlock.row)) : Does Try.prog 5 [.agg #[.int .i64 a0.Order, u0_0]] w fun u m => ∃ v0, u = .tuple #[v0, .int .i64 r.2] ∧ m = [.sl v0 37 2 (r.1.map TBlock.row)] := by
  rw [m5_buddy_Free] at h
  refine body (n := 15) Try.func5 rfl rfl rfl (Cls.refl w) ?_
  refine W.seq (W.region (L.box rfl rfl ?_))
  intro b1
  refine L.y rfl (Y.assign rfl) ?_
  refine L.y rfl (Y.assign rfl) ?_
  refine L.nil (E.thenN (W.seq (W.seq (W.region (L.y rfl (Y.loadPW (i := 0) ag24 sz24 rfl rfl rfl) ?_)))))
  obtain ⟨x2, e3, h⟩ := bind1S h
  refine L.y rfl (Y.does en8 rfl (fun w' hw => (w8_buddy_Check a0 u0_0 w' _ e3 (hA0_0.cls0 hw)).mono (fun _ _ h => h.1))) ?_
  refine L.y rfl (Y.assign rfl) ?_
  refine L.nil (E.thenN (W.seq (W.region (L.y rfl (Y.move rfl) ?_))))
  refine L.ite h rfl (Y.neq rfl rfl) (fun c4 h => ?_) (fun c4 h => ?_)
  ·
   refine L.nil (E.thenN (W.condT rfl ?_))
   refine W.seq (W.region (L.y rfl (Y.move rfl) ?_))
   refine L.y rfl (Y.assign rfl) ?_
   refine L.y rfl (Y.assign rfl) ?_
   refine L.nil (E.thenN (W.ret (E.thenR (E.ret2 rfl rfl rfl (fun w1 hw => ?_)))))
   obtain rfl := Option.some.inj h
   exact ⟨_, _, rfl, ⟨_, rfl, rfl⟩, (hw.nilSl 37 2).sel [0] (by decide) rfl⟩
  ·
   refine L.nil (E.thenN (W.condF rfl ?_))
   refine W.skip (E.thenN (W.seq (W.region (L.y rfl (Y.fieldP fd24_1 rfl) ?_))))
   refine L.y rfl (Y.loadP (i := 0) ag22 rfl rfl rfl) ?_
   refine L.y rfl (Y.fieldP fd24_0 rfl) ?_
   refine L.y rfl (Y.loadP (i := 0) ag3 rfl rfl rfl) ?_
   obtain ⟨l5, e7, h⟩ := bind1S h
   refine L.does rfl en17 rfl (fun w' hw => w17_buddy_free a0.Taken 0 a0.Order u0_0 w' _ e7 (hA0_0.cls0 hw)) ?_
   rintro v6 _ ⟨_, rfl, rfl⟩
   refine L.y rfl (Y.assign rfl) ?_
   refine L.y rfl (Y.assign rfl) ?_
   refine L.nil (E.thenN (W.ret (E.ret2 rfl rfl rfl (fun w1 hw => ?_))))
   obtain rfl := Option.some.inj h
   exact ⟨_, _, rfl, ⟨_, rfl, rfl⟩, hw.sel [0] (by decide) rfl⟩
set_option maxRecDepth 100000 in
set_option maxHeartbeats 8000000 in
theorem w16_api_Block (a0 : (List TBlock)) (u0 : Value) (w : World) (r : (List TBlock)) (h : m16_api_Block a0 = some r) (hA0 : At w u0 2 (a0.map TBlock.row)) : Does Try.prog 16 [u0] w fun u m => ∃ v0, u = v0 ∧ m = [.sl v0 37 2 (r.map TBlock.row)] := by
  rw [m16_api_Block] at h
  rcases hA0.shape with ⟨rfl, hn⟩ | ⟨ad, cap, rfl, hl, hm⟩
  ·
   obtain rfl : a0 = [] := by simpa using hn
   replace h : some ([] : List TBlock) = some r := by simpa [app] using h
   refine body (n := 8) Try.func16 rfl rfl rfl (Cls.refl w) ?_
   refine W.seq (W.region (L.y rfl (Y.assign rfl) ?_))
   refine L.nil (E.thenN (W.seq (W.seq (W.region (L.y rfl (Y.move rfl) ?_)))))
   refine L.y rfl (Y.eqlNil Try.underlying22 rfl rfl) ?_
   refine L.nil (E.thenN (W.condT rfl ?_))
   refine W.seq (W.region (L.y rfl (Y.assign rfl) ?_))
   refine L.nil (E.thenN (W.ret (E.thenR (E.ret1 rfl rfl (fun w1 hw => ?_)))))
   obtain rfl := Option.some.inj h
   exact ⟨_, _, rfl, ⟨_, rfl, rfl⟩, (hw.nilSl 37 2)⟩
  ·
   refine body (n := 8) Try.func16 rfl rfl rfl (Cls.refl w) ?_
   refine W.seq (W.region (L.y rfl (Y.assign rfl) ?_))
   refine L.nil (E.thenN (W.seq (W.seq (W.region (L.y rfl (Y.move rfl) ?_)))))
   refine L.y rfl (Y.eqlNil Try.underlying22 rfl rfl) ?_
   refine L.nil (E.thenN (W.condF rfl ?_))
   refine W.skip (E.thenN (W.seq (W.region (L.lit0 rfl Try.underlying22 eL37 ?_))))
   intro b1
   refine L.y rfl (Y.move rfl) ?_
   refine L.appM (i := 0) (g := TBlock.row) (l := []) (more := a0) h rfl Try.underlying22 eL37 rfl rfl rfl (fun w' hw => hA0.cls0 hw) (plain_TBlock _) rfl ?_
   intro v2 l3 el3 h
   refine L.y rfl (Y.assign rfl) ?_
   refine L.nil (E.thenN (W.ret (E.ret1 rfl rfl (fun w1 hw => ?_))))
   obtain rfl := Option.some.inj h
   exact ⟨_, _, rfl, ⟨_, rfl, rfl⟩, hw⟩
set_option maxRecDepth 100000 in
set_option maxHeartbeats 8000000 in
theorem w30_cmp_isNaN_int (a0 : Int) (w : World) (r : Bool) (h : m30_cmp_isNaN_int a0 = some r) : Does Try.prog 30 [.int .i64 a0] w fun u m => u = .bool r ∧ m = [] := by
  rw [m30_cmp_isNaN_int] at h
  refine body (n := 6) Try.func30 rfl rfl rfl (Cls.refl w) ?_
  refine W.seq (W.region (L.y rfl (Y.assign rfl) ?_))
  refine L.nil (E.thenN (W.seq (W.region (L.y rfl (Y.move rfl) ?_))))
  refine L.y rfl (Y.move rfl) ?_
  refine L.y rfl (Y.neq rfl rfl) ?_
  refine L.y rfl (Y.assign rfl) ?_
  refine L.nil (E.thenN (W.ret (E.ret1 rfl rfl (fun w1 hw => ?_))))
  obtain rfl := Option.some.inj h
  exact ⟨_, _, rfl, ⟨rfl, rfl⟩, hw⟩
set_option maxRecDepth 100000 in
set_option maxHeartbeats 8000000 in
theorem w20_cmp_Compare_int (a0 : Int) (a1 : Int) (w : World) (r : Int) (h : m20_cmp_Compare_int a0 a1 = some r) : Does Try.prog 20 [.int .i64 a0, .int .i64 a1] w fun u m => u = .int .i64 r ∧ m = [] := by
  rw [m20_cmp_Compare_int] at h
  refine body (n := 20) Try.func20 rfl rfl rfl (Cls.refl w) ?_
  refine W.seq (W.region (L.y rfl (Y.assign rfl) ?_))
  refine L.nil (E.thenN (W.seqJ (fun gs D => ∃ (gb1 : Bool), gs = [(0, .int .i64 a0), (1, .int .i64 a1), (5, .bool gb1)] ∧ D = Cls w [] [] ∧ m20_cmp_Compare_int_K1 a1 a0 gb1 = some r) ?_ ?_))
  ·
   refine W.region (L.y rfl (Y.move rfl) ?_)
   obtain ⟨b7, e8, h⟩ := bind1S h
   refine L.y rfl (Y.does en30 rfl (fun w' hw => (w30_cmp_isNaN_int a0 w' _ e8).mono (fun _ _ h => h.1))) ?_
   rcases b7 with _ | _
   ·
    replace h := iteF h
    refine L.y rfl (Y.assign rfl) ?_
    exact L.nil (E.joinJ ⟨false, rfl, rfl, h⟩ ⟨rfl, rfl, rfl, trivial⟩ (fun _ hw => hw))
   ·
    replace h := iteT h
    refine L.y rfl (Y.assign rfl) ?_
    exact L.nil (E.joinJ ⟨true, rfl, rfl, h⟩ ⟨rfl, rfl, rfl, trivial⟩ (fun _ hw => hw))
  ·
   rintro _ _ ⟨gb1, rfl, rfl, h⟩
   rw [m20_cmp_Compare_int_K1] at h
   rcases gb1 with _ | _
   ·
    replace h := iteF h
    refine W.seq (W.region (L.y rfl (Y.move rfl) ?_))
    obtain ⟨b1, e2, h⟩ := bind1S h
    refine L.y rfl (Y.does en30 rfl (fun w' hw => (w30_cmp_isNaN_int a1 w' _ e2).mono (fun _ _ h => h.1))) ?_
    rcases b1 with _ | _
    ·
     replace h := iteF h
     refine L.y rfl (Y.assign rfl) ?_
     refine L.nil (E.thenN (W.seq (W.seq (W.region (L.y rfl (Y.move rfl) ?_)))))
     refine L.nil (E.thenN (W.condF rfl ?_))
     refine W.skip (E.thenN (W.seq (W.seq (W.region (L.y rfl (Y.move rfl) ?_)))))
     refine L.nil (E.thenN (W.condF rfl ?_))
     refine W.skip (E.thenN (W.seq (W.seq (W.region (L.y rfl (Y.move rfl) ?_)))))
     refine L.y rfl (Y.move rfl) ?_
     refine L.ite h rfl (Y.lss rfl rfl) (fun c3 h => ?_) (fun c3 h => ?_)
     ·
      refine L.nil (E.thenN (W.condT rfl ?_))
      refine W.seq (W.region (L.y rfl (Y.assign rfl) ?_))
      refine L.nil (E.thenN (W.ret (E.thenR (E.ret1 rfl rfl (fun w1 hw => ?_)))))
      obtain rfl := Option.some.inj h
      exact ⟨_, _, rfl, ⟨rfl, rfl⟩, hw⟩
     ·
      refine L.nil (E.thenN (W.condF rfl ?_))
      refine W.skip (E.thenN (W.seq (W.seq (W.region (L.y rfl (Y.move rfl) ?_)))))
      refine L.y rfl (Y.move rfl) ?_
      refine L.ite h rfl (Y.gtr rfl rfl) (fun c4 h => ?_) (fun c4 h => ?_)
      ·
       refine L.nil (E.thenN (W.condT rfl ?_))
       refine W.seq (W.region (L.y rfl (Y.assign rfl) ?_))
       refine L.nil (E.thenN (W.ret (E.thenR (E.ret1 rfl rfl (fun w1 hw => ?_)))))
       obtain rfl := Option.some.inj h
       exact ⟨_, _, rfl, ⟨rfl, rfl⟩, hw⟩
      ·
       refine L.nil (E.thenN (W.condF rfl ?_))
       refine W.skip (E.thenN (W.seq (W.region (L.y rfl (Y.assign rfl) ?_))))
       refine L.nil (E.thenN (W.ret (E.ret1 rfl rfl (fun w1 hw => ?_))))
       obtain rfl := Option.some.inj h
       exact ⟨_, _, rfl, ⟨rfl, rfl⟩, hw⟩
    ·
     replace h := iteT h
     refine L.y rfl (Y.assign rfl) ?_
     refine L.nil (E.thenN (W.seq (W.seq (W.region (L.y rfl (Y.move rfl) ?_)))))
     refine L.nil (E.thenN (W.condF rfl ?_))
     refine W.skip (E.thenN (W.seq (W.seq (W.region (L.y rfl (Y.move rfl) ?_)))))
     refine L.nil (E.thenN (W.condT rfl ?_))
     refine W.seq (W.region (L.y rfl (Y.assign rfl) ?_))
     refine L.nil (E.thenN (W.ret (E.thenR (E.ret1 rfl rfl (fun w1 hw => ?_)))))
     obtain rfl := Option.some.inj h
     exact ⟨_, _, rfl, ⟨rfl, rfl⟩, hw⟩
   ·
    replace h := iteT h
    refine W.seq (W.region (L.y rfl (Y.move rfl) ?_))
    obtain ⟨b5, e6, h⟩ := bind1S h
    refine L.y rfl (Y.does en30 rfl (fun w' hw => (w30_cmp_isNaN_int a1 w' _ e6).mono (fun _ _ h => h.1))) ?_
    rcases b5 with _ | _
    ·
     replace h := iteF h
     refine L.y rfl (Y.assign rfl) ?_
     refine L.nil (E.thenN (W.seq (W.seq (W.region (L.y rfl (Y.move rfl) ?_)))))
     refine L.nil (E.thenN (W.condT rfl ?_))
     refine W.seq (W.seq (W.region (L.y rfl (Y.move rfl) ?_)))
     refine L.nil (E.thenN (W.condF rfl ?_))
     refine W.skip (E.thenN (W.seq (W.region (L.y rfl (Y.assign rfl) ?_))))
     refine L.nil (E.thenN (W.ret (E.thenR (E.ret1 rfl rfl (fun w1 hw => ?_)))))
     obtain rfl := Option.some.inj h
     exact ⟨_, _, rfl, ⟨rfl, rfl⟩, hw⟩
    ·
     replace h := iteT h
     refine L.y rfl (Y.assign rfl) ?_
     refine L.nil (E.thenN (W.seq (W.seq (W.region (L.y rfl (Y.move rfl) ?_)))))
     refine L.nil (E.thenN (W.condT rfl ?_))
     refine W.seq (W.seq (W.region (L.y rfl (Y.move rfl) ?_)))
     refine L.nil (E.thenN (W.condT rfl ?_))
     refine W.seq (W.region (L.y rfl (Y.assign rfl) ?_))
     refine L.nil (E.thenN (W.ret (E.thenR (E.thenR (E.ret1 rfl rfl (fun w1 hw => ?_))))))
     obtain rfl := Option.some.inj h
     exact ⟨_, _, rfl, ⟨rfl, rfl⟩, hw⟩
set_option maxRecDepth 100000 in
set_option maxHeartbeats 8000000 in
theorem w19_buddy_Take_1 (a0 : TBlock) (a1 : TBlock) (w : World) (r : Int) (h : m19_buddy_Take_1 a0 a1 = some r) : Does Try.prog 19 [.agg #[.int .i64 a0.At, .int .i64 a0.Order], .agg #[.int .i64 a1.At, .int .i64 a1.Order]] w fun u m => u = .int .i64 r ∧ m = [] := by
  rw [m19_buddy_Take_1] at h
  refine body (n := 10) Try.func19 rfl rfl rfl (Cls.refl w) ?_
  refine W.seq (W.region (L.box rfl rfl ?_))
  intro b1
  refine L.box rfl rfl ?_
  intro b2
  refine L.y rfl (Y.assign rfl) ?_
  refine L.nil (E.thenN (W.seq (W.region (L.y rfl (Y.fieldP fd37_0 rfl) ?_))))
  refine L.y rfl (Y.loadP (i := 1) ag3 rfl rfl rfl) ?_
  refine L.y rfl (Y.fieldP fd37_0 rfl) ?_
  refine L.y rfl (Y.loadP (i := 0) ag3 rfl rfl rfl) ?_
  obtain ⟨x3, e4, h⟩ := bind1S h
  refine L.y rfl (Y.does en20 rfl (fun w' hw => (w20_cmp_Compare_int a0.At a1.At w' _ e4).mono (fun _ _ h => h.1))) ?_
  refine L.y rfl (Y.assign rfl) ?_
  refine L.nil (E.thenN (W.ret (E.ret1 rfl rfl (fun w1 hw => ?_))))
  obtain rfl := Option.some.inj h
  exact ⟨_, _, rfl, ⟨rfl, rfl⟩, hw.sel [] (by decide) rfl⟩
set_option maxRecDepth 100000 in
set_option maxHeartbeats 8000000 in
theorem w6_buddy_Take (a0 : TBuddy) (a1 : Int) (u0_0 : Value) (w : World) (r : (TBuddy × Int × Int)) (h : m6_buddy_Take a0 a1 = some r) (hA0_0 : At w u0_0 2 (a0.Taken.map TBlock.row)) : Does Try.prog 6 [.agg #[.int .i64 a0.Order, u0_0], .int .i64 a1] w fun u m => ∃ v0, u = .tuple #[.agg #[.int .i64 r.1.Order, v0], .int .i64 r.2.1, .int .i64 r.2.2] ∧ m = [.sl v0 37 2 (r.1.Taken.map TBlock.row)] := by
  rw [m6_buddy_Take] at h
  refine body (n := 85) Try.func6 rfl rfl rfl (Cls.refl w) ?_
  refine W.seq (W.region (L.box rfl rfl ?_))
  intro b1
  refine L.alloc rfl ze24 ?_
  intro b2
  refine L.y rfl (Y.assign rfl) ?_
  refine L.y rfl (Y.assign rfl) ?_
  refine L.nil (E.thenN (W.seq (W.region (L.y rfl (Y.loadPW (i := 1) ag24 sz24 rfl rfl rfl) ?_))))
  obtain ⟨l3, x5, e6, h⟩ := bind2S h
  refine L.does rfl en5 rfl (fun w' hw => w5_buddy_Free a0 u0_0 w' _ e6 (hA0_0.cls0 hw)) ?_
  rintro _ _ ⟨v4, rfl, rfl⟩
  refine L.y rfl (Y.move rfl) ?_
  refine L.y rfl (Y.extract rfl rfl) ?_
  refine L.y rfl (Y.extract rfl rfl) ?_
  refine L.y rfl (Y.assign rfl) ?_
  refine L.y rfl (Y.assign rfl) ?_
  refine L.nil (E.thenN (W.seqJ (fun gs D => gs = [(1, .int .i64 a1), (2, pt b1 0), (4, pt b2 0), (7, v4)] ∧ D = Cls w [] [.obj b2 [.int .i64 0, .slice none 0 0] 24, .obj b1 [.int .i64 a0.Order, u0_0] 24, .sl v4 37 2 (l3.map TBlock.row)] ∧ m6_buddy_Take_K1 a1 a0 l3 = some r) ?_ ?_))
  ·
   refine W.seq (W.region (L.y rfl (Y.move rfl) ?_))
   refine L.ite h rfl (Y.neq rfl rfl) (fun c83 h => ?_) (fun c83 h => ?_)
   ·
    refine L.nil (E.thenN (W.condT rfl ?_))
    refine W.seq (W.region (L.y rfl (Y.build (cells := #[.int .i64 0, .slice none 0 0]) rfl (by kernel_rfl)) ?_))
    refine L.y rfl (Y.move rfl) ?_
    refine L.store (i := 1) (vs := [.int .i64 0, .slice none 0 0]) sz24 rfl rfl rfl rfl (by simp [Value.oneCell', Value.cells, st, pt]) rfl (Nat.le_of_ble_eq_true rfl) ?_
    refine L.y rfl (Y.assign rfl) ?_
    refine L.y rfl (Y.assign rfl) ?_
    refine L.nil (E.thenN (W.ret (E.KSR (E.retR3 rfl (Rv.cellW (i := 1) ag24 sz24 rfl rfl rfl) (Rv.tmp rfl) (Rv.tmp rfl) (fun w1 hw => ?_)))))
    obtain rfl := Option.some.inj h
    exact ⟨_, _, rfl, ⟨_, rfl, rfl⟩, (hw.nilSl 37 2).sel [0] (by decide) rfl⟩
   ·
    refine L.nil (E.thenN (W.condF rfl ?_))
    exact W.skip (E.joinJ ⟨rfl, rfl, h⟩ ⟨rfl, rfl, rfl, rfl, trivial⟩ (fun _ hw => hw.sel [1, 2, 0] (by decide) rfl))
  ·
   rintro _ _ ⟨rfl, rfl, h⟩
   rw [m6_buddy_Take_K1] at h
   refine W.seqJ (fun gs D => gs = [(1, .int .i64 a1), (2, pt b1 0), (4, pt b2 0), (7, v4)] ∧ D = Cls w [] [.obj b2 [.int .i64 0, .slice none 0 0] 24, .obj b1 [.int .i64 a0.Order, u0_0] 24, .sl v4 37 2 (l3.map TBlock.row)] ∧ m6_buddy_Take_K2 l3 a1 a0 = some r) ?_ ?_
   ·
    refine W.seq (W.region (L.y rfl (Y.move rfl) ?_))
    refine L.ite h rfl (Y.lss rfl rfl) (fun c81 h => ?_) (fun c81 h => ?_)
    ·
     refine L.y rfl (Y.move rfl) ?_
     refine L.pass rfl rfl (by nofun) ?_
     refine L.pass rfl rfl (by nofun) ?_
     refine L.pass rfl rfl (by nofun) ?_
     refine L.pass rfl rfl (by nofun) ?_
     refine L.y rfl (Y.pickT rfl rfl) ?_
     refine L.nil (E.thenN (W.condT rfl ?_))
     refine W.seq (W.region (L.y rfl (Y.build (cells := #[.int .i64 0, .slice none 0 0]) rfl (by kernel_rfl)) ?_))
     refine L.store (i := 0) (vs := [.int .i64 0, .slice none 0 0]) sz24 rfl rfl rfl rfl (by simp [Value.oneCell', Value.cells, st, pt]) rfl (Nat.le_of_ble_eq_true rfl) ?_
     refine L.y rfl (Y.assign rfl) ?_
     refine L.y rfl (Y.assign rfl) ?_
     refine L.nil (E.thenN (W.ret (E.KSR (E.retR3 rfl (Rv.cellW (i := 0) ag24 sz24 rfl rfl rfl) (Rv.tmp rfl) (Rv.tmp rfl) (fun w1 hw => ?_)))))
     obtain rfl := Option.some.inj h
     exact ⟨_, _, rfl, ⟨_, rfl, rfl⟩, (hw.nilSl 37 2).sel [0] (by decide) rfl⟩
    ·
     refine L.y rfl (Y.move rfl) ?_
     refine L.take rfl (L.y rfl (Y.move rfl) ?_)
     refine L.take rfl (L.y rfl (Y.fieldP fd24_0 rfl) ?_)
     refine L.take rfl (L.y rfl (Y.loadP (i := 1) ag3 rfl rfl rfl) ?_)
     refine L.take rfl (L.ite h rfl (Y.gtr rfl rfl) (fun c82 h => ?_) (fun c82 h => ?_))
     ·
      refine L.y rfl (Y.pickF rfl rfl) ?_
      refine L.nil (E.thenN (W.condT rfl ?_))
      refine W.seq (W.region (L.y rfl (Y.build (cells := #[.int .i64 0, .slice none 0 0]) rfl (by kernel_rfl)) ?_))
      refine L.store (i := 0) (vs := [.int .i64 0, .slice none 0 0]) sz24 rfl rfl rfl rfl (by simp [Value.oneCell', Value.cells, st, pt]) rfl (Nat.le_of_ble_eq_true rfl) ?_
      refine L.y rfl (Y.assign rfl) ?_
      refine L.y rfl (Y.assign rfl) ?_
      refine L.nil (E.thenN (W.ret (E.KSR (E.retR3 rfl (Rv.cellW (i := 0) ag24 sz24 rfl rfl rfl) (Rv.tmp rfl) (Rv.tmp rfl) (fun w1 hw => ?_)))))
      obtain rfl := Option.some.inj h
      exact ⟨_, _, rfl, ⟨_, rfl, rfl⟩, (hw.nilSl 37 2).sel [0] (by decide) rfl⟩
     ·
      refine L.y rfl (Y.pickF rfl rfl) ?_
      refine L.nil (E.thenN (W.condF rfl ?_))
      exact W.skip (E.joinJ ⟨rfl, rfl, h⟩ ⟨rfl, rfl, rfl, rfl, trivial⟩ (fun _ hw => hw))
   ·
    rintro _ _ ⟨rfl, rfl, h⟩
    rw [m6_buddy_Take_K2] at h
    refine W.seq (W.region (L.y rfl (Y.assign rfl) ?_))
    refine L.nil (E.thenN (W.seqJ (fun gs D => ∃ (gx1 : Int), gs = [(1, .int .i64 a1), (2, pt b1 0), (4, pt b2 0), (7, v4), (9, .int .i64 gx1)] ∧ D = Cls w [] [.obj b2 [.int .i64 0, .slice none 0 0] 24, .obj b1 [.int .i64 a0.Order, u0_0] 24, .sl v4 37 2 (l3.map TBlock.row)] ∧ m6_buddy_Take_K3 l3 a0 a1 gx1 = some r) ?_ ?_))
    ·
     refine W.seq (W.region (L.y rfl (Y.move rfl) ?_))
     refine L.y rfl (Y.lenM (g := TBlock.row) (l := l3) Try.underlying22 rfl (fun w hw => As.at_ (hw.get (i := 2) rfl))) ?_
     refine L.y rfl (Y.move rfl) ?_
     refine L.nil (E.thenN (W.block (W.loopJ (fun m gs D => ∃ (gx5 : Int) (gx6 : Int), gs = [(1, .int .i64 a1), (2, pt b1 0), (4, pt b2 0), (7, v4), (9, .int .i64 gx5), (31, v4), (32, .int .i64 (l3.length : Int)), (33, .int .i64 gx6)] ∧ D = Cls w [] [.obj b2 [.int .i64 0, .slice none 0 0] 24, .obj b1 [.int .i64 a0.Order, u0_0] 24, .sl v4 37 2 (l3.map TBlock.row)] ∧ m6_buddy_Take_L1 l3 a1 a0 m gx5 gx6 = some r) ⟨(-1), 0, rfl, rfl, h⟩ ⟨rfl, rfl, rfl, rfl, rfl, rfl, rfl, rfl, trivial⟩ (fun _ hw => hw) ?_)))
     rintro m _ _ ⟨gx5, gx6, rfl, rfl, h⟩
     rcases m with _ | m
     · rw [m6_buddy_Take_L1] at h; cases h
     rw [m6_buddy_Take_L1] at h
     generalize hg1 : m6_buddy_Take_L1 l3 a1 a0 m = go1 at h
     rw [m6_buddy_Take_L1B] at h
     refine W.seq (W.region (L.ite h rfl (Y.lss rfl rfl) (fun c70 h => ?_) (fun c70 h => ?_)))
     ·
      refine L.nil (E.thenN (W.seq (W.condT rfl ?_)))
      refine W.skip (E.thenN (W.seq (W.block (W.seq (W.region (L.y rfl (Y.move rfl) ?_))))))
      refine L.m (V := fun _ => el v4 (gx6.toNat * 2)) h rfl (Y.indexM (g := TBlock.row) (l := l3) Try.underlying22 sz37 rfl rfl (fun w hw => As.at_ (hw.get (i := 2) rfl))) (fun x71 ex71 h => ?_)
      refine L.y rfl (Y.loadEN (r := [.int .i64 x71.At, .int .i64 x71.Order]) ag37 sz37 rfl (fun w hw => As.at_ (hw.get (i := 2) rfl)) (idx_map ex71) rfl) ?_
      refine L.alloc rfl ze37 ?_
      intro b72
      refine L.y rfl (Y.assign rfl) ?_
      refine L.store (i := 0) (vs := [.int .i64 x71.At, .int .i64 x71.Order]) sz37 rfl rfl rfl rfl (by simp [Value.oneCell', Value.cells, st, pt]) rfl (Nat.le_of_ble_eq_true rfl) ?_
      refine L.nil (E.thenN (W.seq (W.quietC mixed (by kernel_rfl) (fun _ hw => hw.drew) (fun hC => ?_))))
      refine U.y rfl (Y.fieldP fd37_1 rfl) ?_
      refine U.y rfl (Y.loadP (i := 0) ag3 rfl rfl rfl) ?_
      refine U.y rfl (Y.move rfl) ?_
      refine U.ite h rfl (Y.geq rfl rfl) (fun c73 h => ?_) (fun c73 h => ?_)
      ·
       refine U.y rfl (Y.move rfl) ?_
       refine U.take rfl (U.y rfl (Y.move rfl) ?_)
       refine U.take rfl (U.ite h rfl (Y.lss rfl rfl) (fun c74 h => ?_) (fun c74 h => ?_))
       ·
        refine U.take rfl (U.y rfl (Y.move rfl) ?_)
        refine U.pass rfl rfl (by nofun) ?_
        refine U.pass rfl rfl (by nofun) ?_
        refine U.pass rfl rfl (by nofun) ?_
        refine U.pass rfl rfl (by nofun) ?_
        refine U.pass rfl rfl (by nofun) ?_
        refine U.pass rfl rfl (by nofun) ?_
        refine U.pass rfl rfl (by nofun) ?_
        refine U.pass rfl rfl (by nofun) ?_
        refine U.take rfl (U.y rfl (Y.pickT rfl rfl) ?_)
        refine U.y rfl (Y.pickT rfl rfl) ?_
        refine U.nil (E.thenN (W.condT rfl ?_))
        refine W.region (L.y rfl (Y.move rfl) ?_)
        refine L.y rfl (Y.assign rfl) ?_
        refine L.nil (E.blockN (E.thenN (W.region (L.m (V := fun x75 => .int .i64 x75) h rfl (Y.addM rfl rfl) (fun x75 ex75 h => ?_)))))
        refine L.y rfl (Y.move rfl) ?_
        exact L.nil (E.againJ ⟨gx6, x75, rfl, rfl, by rw [hg1]; exact h⟩ (Nat.lt_succ_self _) ⟨rfl, rfl, rfl, rfl, rfl, rfl, rfl, rfl, trivial⟩ (fun _ hw => hw.sel [1, 2, 3] (by decide) rfl))
       ·
        refine U.take rfl (U.y rfl (Y.move rfl) ?_)
        refine U.take rfl (U.y rfl (Y.fieldP fd37_1 rfl) ?_)
        refine U.take rfl (U.y rfl (Y.loadP (i := 0) ag3 rfl rfl rfl) ?_)
        refine U.take rfl (U.y rfl (Y.move rfl) ?_)
        refine U.take rfl (U.y rfl (Y.move rfl) ?_)
        refine U.take rfl (U.m (V := fun _ => el v4 (gx5.toNat * 2)) h rfl (Y.indexM (g := TBlock.row) (l := l3) Try.underlying22 sz37 rfl rfl (fun w hw => As.at_ (hw.get (i := 3) rfl))) (fun x76 ex76 h => ?_))
        refine U.take rfl (U.y rfl (Y.fieldE fd37_1 rfl) ?_)
        refine U.take rfl (U.y rfl (Y.loadE (u := .int .i64 x76.Order) ag3 rfl (fun w hw => As.at_ (hw.get (i := 3) rfl)) (idx_map ex76) rfl) ?_)
        refine U.take rfl (U.ite h rfl (Y.lss rfl rfl) (fun c77 h => ?_) (fun c77 h => ?_))
        ·
         refine U.take rfl (U.y rfl (Y.pickF rfl rfl) ?_)
         refine U.y rfl (Y.pickT rfl rfl) ?_
         refine U.nil (E.thenN (W.condT rfl ?_))
         refine W.region (L.y rfl (Y.move rfl) ?_)
         refine L.y rfl (Y.assign rfl) ?_
         refine L.nil (E.blockN (E.thenN (W.region (L.m (V := fun x78 => .int .i64 x78) h rfl (Y.addM rfl rfl) (fun x78 ex78 h => ?_)))))
         refine L.y rfl (Y.move rfl) ?_
         exact L.nil (E.againJ ⟨gx6, x78, rfl, rfl, by rw [hg1]; exact h⟩ (Nat.lt_succ_self _) ⟨rfl, rfl, rfl, rfl, rfl, rfl, rfl, rfl, trivial⟩ (fun _ hw => hw.sel [1, 2, 3] (by decide) rfl))
        ·
         refine U.take rfl (U.y rfl (Y.pickF rfl rfl) ?_)
         refine U.y rfl (Y.pickT rfl rfl) ?_
         refine U.nil (E.thenN (W.condF rfl ?_))
         refine W.skip (E.blockN (E.thenN (W.region (L.m (V := fun x79 => .int .i64 x79) h rfl (Y.addM rfl rfl) (fun x79 ex79 h => ?_)))))
         refine L.y rfl (Y.move rfl) ?_
         exact L.nil (E.againJ ⟨gx5, x79, rfl, rfl, by rw [hg1]; exact h⟩ (Nat.lt_succ_self _) ⟨rfl, rfl, rfl, rfl, rfl, rfl, rfl, rfl, trivial⟩ (fun _ hw => hw.sel [1, 2, 3] (by decide) rfl))
      ·
       refine U.y rfl (Y.move rfl) ?_
       refine U.pass rfl rfl (by nofun) ?_
       refine U.pass rfl rfl (by nofun) ?_
       refine U.pass rfl rfl (by nofun) ?_
       refine U.pass rfl rfl (by nofun) ?_
       refine U.pass rfl rfl (by nofun) ?_
       refine U.pass rfl rfl (by nofun) ?_
       refine U.pass rfl rfl (by nofun) ?_
       refine U.pass rfl rfl (by nofun) ?_
       refine U.pass rfl rfl (by nofun) ?_
       refine U.pass rfl rfl (by nofun) ?_
       refine U.pass rfl rfl (by nofun) ?_
       refine U.pass rfl rfl (by nofun) ?_
       refine U.y rfl (Y.pickF rfl rfl) ?_
       refine U.nil (E.thenN (W.condF rfl ?_))
       refine W.skip (E.blockN (E.thenN (W.region (L.m (V := fun x80 => .int .i64 x80) h rfl (Y.addM rfl rfl) (fun x80 ex80 h => ?_)))))
       refine L.y rfl (Y.move rfl) ?_
       exact L.nil (E.againJ ⟨gx5, x80, rfl, rfl, by rw [hg1]; exact h⟩ (Nat.lt_succ_self _) ⟨rfl, rfl, rfl, rfl, rfl, rfl, rfl, rfl, trivial⟩ (fun _ hw => hw.sel [1, 2, 3] (by decide) rfl))
     ·
      refine L.nil (E.thenN (W.seq (W.condF rfl ?_)))
      exact W.exit (E.thenX (E.KLX (E.blockX (E.joinJ ⟨gx5, rfl, rfl, h⟩ ⟨rfl, rfl, rfl, rfl, rfl, trivial⟩ (fun _ hw => hw)))))
    ·
     rintro _ _ ⟨gx1, rfl, rfl, h⟩
     rw [m6_buddy_Take_K3] at h
     refine W.seqJ (fun gs D => gs = [(1, .int .i64 a1), (2, pt b1 0), (4, pt b2 0), (7, v4), (9, .int .i64 gx1)] ∧ D = Cls w [] [.obj b2 [.int .i64 0, .slice none 0 0] 24, .obj b1 [.int .i64 a0.Order, u0_0] 24, .sl v4 37 2 (l3.map TBlock.row)] ∧ m6_buddy_Take_K4 l3 gx1 a0 a1 = some r) ?_ ?_
     ·
      refine W.seq (W.region (L.y rfl (Y.move rfl) ?_))
      refine L.ite h rfl (Y.lss rfl rfl) (fun c69 h => ?_) (fun c69 h => ?_)
      ·
       refine L.nil (E.thenN (W.condT rfl ?_))
       refine W.seq (W.region (L.y rfl (Y.build (cells := #[.int .i64 0, .slice none 0 0]) rfl (by kernel_rfl)) ?_))
       refine L.store (i := 0) (vs := [.int .i64 0, .slice none 0 0]) sz24 rfl rfl rfl rfl (by simp [Value.oneCell', Value.cells, st, pt]) rfl (Nat.le_of_ble_eq_true rfl) ?_
       refine L.y rfl (Y.assign rfl) ?_
       refine L.y rfl (Y.assign rfl) ?_
       refine L.nil (E.thenN (W.ret (E.KSR (E.retR3 rfl (Rv.cellW (i := 0) ag24 sz24 rfl rfl rfl) (Rv.tmp rfl) (Rv.tmp rfl) (fun w1 hw => ?_)))))
       obtain rfl := Option.some.inj h
       exact ⟨_, _, rfl, ⟨_, rfl, rfl⟩, (hw.nilSl 37 2).sel [0] (by decide) rfl⟩
      ·
       refine L.nil (E.thenN (W.condF rfl ?_))
       exact W.skip (E.joinJ ⟨rfl, rfl, h⟩ ⟨rfl, rfl, rfl, rfl, rfl, trivial⟩ (fun _ hw => hw))
     ·
      rintro _ _ ⟨rfl, rfl, h⟩
      rw [m6_buddy_Take_K4] at h
      refine W.seqJ (fun gs D => ∃ (gb2 : Nat) (gv3 : Value) (gl4 : (List TBlock)), gs = [(4, pt b2 0), (7, v4), (9, .int .i64 gx1), (12, pt gb2 0)] ∧ D = Cls w [] [.obj b2 [.int .i64 0, .slice none 0 0] 24, .sl v4 37 2 (l3.map TBlock.row), .sl gv3 37 2 (gl4.map TBlock.row), .obj gb2 [.int .i64 a0.Order, gv3] 24] ∧ m6_buddy_Take_K5 l3 gx1 a0 gl4 = some r) ?_ ?_
      ·
       refine W.drawn2 (k := 17) (stC [[13, 16], [16]] [Cls w [] [.obj b2 [.int .i64 0, .slice none 0 0] 24, .obj b1 [.int .i64 a0.Order, u0_0] 24, .sl v4 37 2 (l3.map TBlock.row)], Cls w [] [.obj b2 [.int .i64 0, .slice none 0 0] 24, .obj b1 [.int .i64 a0.Order, u0_0] 24, .sl v4 37 2 (l3.map TBlock.row)]] (Cls w [] [.obj b2 [.int .i64 0, .slice none 0 0] 24, .obj b1 [.int .i64 a0.Order, u0_0] 24, .sl v4 37 2 (l3.map TBlock.row)])) rfl mixed (fun _ hw => hw.drew) (Sc.now (by kernel_rfl) (fun _ hw => hw)) ?_
       refine V2.y (i := 0) (Nx2.of (Z := Cls w [] [.obj b2 [.int .i64 0, .slice none 0 0] 24, .obj b1 [.int .i64 a0.Order, u0_0] 24, .sl v4 37 2 (l3.map TBlock.row)]) [] (by kernel_rfl) rfl (Zc.on (fun _ hw => hw) (Zc.on (fun _ hw => hw) (Zc.fin (fun _ hw => hw))))) rfl rfl rfl (Y.fieldP fd24_0 rfl) ?_
       refine V2.y (i := 1) (Nx2.of (Z := Cls w [] [.obj b2 [.int .i64 0, .slice none 0 0] 24, .obj b1 [.int .i64 a0.Order, u0_0] 24, .sl v4 37 2 (l3.map TBlock.row)]) [] (by kernel_rfl) rfl (Zc.on (fun _ hw => hw) (Zc.on (fun _ hw => hw) (Zc.fin (fun _ hw => hw))))) rfl rfl rfl (Y.loadP (i := 1) ag3 rfl rfl rfl) ?_
       refine V2.y (i := 2) (Nx2.of (Z := Cls w [] [.obj b2 [.int .i64 0, .slice none 0 0] 24, .obj b1 [.int .i64 a0.Order, u0_0] 24, .sl v4 37 2 (l3.map TBlock.row)]) [] (by kernel_rfl) rfl (Zc.on (fun _ hw => hw) (Zc.on (fun _ hw => hw) (Zc.fin (fun _ hw => hw))))) rfl rfl rfl (Y.fieldP fd24_1 rfl) ?_
       refine V2.y (i := 3) (Nx2.of (Z := Cls w [] [.obj b2 [.int .i64 0, .slice none 0 0] 24, .obj b1 [.int .i64 a0.Order, u0_0] 24, .sl v4 37 2 (l3.map TBlock.row)]) [] (by kernel_rfl) rfl (Zc.on (fun _ hw => hw) (Zc.on (fun _ hw => hw) (Zc.fin (fun _ hw => hw))))) rfl rfl rfl (Y.loadP (i := 1) ag22 rfl rfl rfl) ?_
       refine V2.y (i := 5) (Nx2.of (Z := Cls w [] [.obj b2 [.int .i64 0, .slice none 0 0] 24, .obj b1 [.int .i64 a0.Order, u0_0] 24, .sl v4 37 2 (l3.map TBlock.row)]) [] (by kernel_rfl) rfl (Zc.on (fun _ hw => hw) (Zc.on (fun _ hw => hw) (Zc.fin (fun _ hw => hw))))) rfl rfl rfl (Y.move rfl) ?_
       refine V2.y (i := 6) (Nx2.of (Z := Cls w [] [.obj b2 [.int .i64 0, .slice none 0 0] 24, .obj b1 [.int .i64 a0.Order, u0_0] 24, .sl v4 37 2 (l3.map TBlock.row)]) [] (by kernel_rfl) rfl (Zc.on (fun _ hw => hw) (Zc.on (fun _ hw => hw) (Zc.fin (fun _ hw => hw))))) rfl rfl rfl (Y.move rfl) ?_
       refine V2.m (i := 7) (V' := fun _ => el v4 (gx1.toNat * 2)) h (Nx2.of (Z := Cls w [] [.obj b2 [.int .i64 0, .slice none 0 0] 24, .obj b1 [.int .i64 a0.Order, u0_0] 24, .sl v4 37 2 (l3.map TBlock.row)]) [] (by kernel_rfl) rfl (Zc.on (fun _ hw => hw) (Zc.on (fun _ hw => hw) (Zc.fin (fun _ hw => hw))))) rfl rfl rfl (Y.indexM (g := TBlock.row) (l := l3) Try.underlying22 sz37 rfl rfl (fun w hw => As.at_ (hw.get (i := 2) rfl))) (fun x25 ex25 h => ?_)
       refine V2.y (i := 8) (Nx2.of (Z := Cls w [] [.obj b2 [.int .i64 0, .slice none 0 0] 24, .obj b1 [.int .i64 a0.Order, u0_0] 24, .sl v4 37 2 (l3.map TBlock.row)]) [] (by kernel_rfl) rfl (Zc.on (fun _ hw => hw) (Zc.on (fun _ hw => hw) (Zc.fin (fun _ hw => hw))))) rfl rfl rfl (Y.fieldE fd37_0 rfl) ?_
       refine V2.y (i := 9) (Nx2.of (Z := Cls w [] [.obj b2 [.int .i64 0, .slice none 0 0] 24, .obj b1 [.int .i64 a0.Order, u0_0] 24, .sl v4 37 2 (l3.map TBlock.row)]) [] (by kernel_rfl) rfl (Zc.on (fun _ hw => hw) (Zc.on (fun _ hw => hw) (Zc.fin (fun _ hw => hw))))) rfl rfl rfl (Y.loadE (u := .int .i64 x25.At) ag3 rfl (fun w hw => As.at_ (hw.get (i := 2) rfl)) (idx_map ex25) rfl) ?_
       refine V2.y (i := 10) (Nx2.of (Z := Cls w [] [.obj b2 [.int .i64 0, .slice none 0 0] 24, .obj b1 [.int .i64 a0.Order, u0_0] 24, .sl v4 37 2 (l3.map TBlock.row)]) [] (by kernel_rfl) rfl (Zc.on (fun _ hw => hw) (Zc.on (fun _ hw => hw) (Zc.fin (fun _ hw => hw))))) rfl rfl rfl (Y.move rfl) ?_
       refine V2.y (i := 11) (Nx2.of (Z := Cls w [] [.obj b2 [.int .i64 0, .slice none 0 0] 24, .obj b1 [.int .i64 a0.Order, u0_0] 24, .sl v4 37 2 (l3.map TBlock.row)]) [] (by kernel_rfl) rfl (Zc.on (fun _ hw => hw) (Zc.on (fun _ hw => hw) (Zc.fin (fun _ hw => hw))))) rfl rfl rfl (Y.build (cells := #[.int .i64 x25.At, .int .i64 a1]) rfl (by kernel_rfl)) ?_
       refine V2.eff3 (i1 := 4) (i2 := 12) (i3 := 15) (by kernel_rfl) rfl rfl rfl ?_ ?_ ?_
       ·
        obtain ⟨l26, e28, h⟩ := bind1S h
        refine L.does rfl en16 rfl (fun w' hw => w16_api_Block a0.Taken u0_0 w' _ e28 (hA0_0.cls0 hw)) ?_
        rintro v27 _ ⟨_, rfl, rfl⟩
        refine L.nil (E.toV2 (stC [[13, 16], [16]] [Cls w [] [.sl v27 37 2 (l26.map TBlock.row), .obj b2 [.int .i64 0, .slice none 0 0] 24, .obj b1 [.int .i64 a0.Order, u0_0] 24, .sl v4 37 2 (l3.map TBlock.row)], Cls w [] [.obj b2 [.int .i64 0, .slice none 0 0] 24, .obj b1 [.int .i64 a0.Order, u0_0] 24, .sl v4 37 2 (l3.map TBlock.row)]] (Cls w [] [.obj b2 [.int .i64 0, .slice none 0 0] 24, .obj b1 [.int .i64 a0.Order, u0_0] 24, .sl v4 37 2 (l3.map TBlock.row)])) 4 (by kernel_rfl) (Sc.stay (fun _ hw => hw.sel [1, 2, 3] (by decide) rfl) (Sc.stay (fun _ hw => hw) (Sc.stayD (fun _ hw => hw)))) (Sc.now (by kernel_rfl) (fun _ hw => hw)) ?_)
        refine V2.eff2 (i1 := 12) (i2 := 15) (by kernel_rfl) rfl rfl ?_ ?_
        ·
         refine L.litAgg rfl Try.underlying22 eL37 rfl rfl rfl ?_
         intro b29
         refine L.nil (E.toV2 (stC [[13, 16], [16]] [Cls w [] [.sl (sv b29 1) 37 2 (([(⟨x25.At, a1⟩ : TBlock)]).map TBlock.row), .sl v27 37 2 (l26.map TBlock.row), .obj b2 [.int .i64 0, .slice none 0 0] 24, .obj b1 [.int .i64 a0.Order, u0_0] 24, .sl v4 37 2 (l3.map TBlock.row)], Cls w [] [.sl (sv b29 1) 37 2 (([(⟨x25.At, a1⟩ : TBlock)]).map TBlock.row), .obj b2 [.int .i64 0, .slice none 0 0] 24, .obj b1 [.int .i64 a0.Order, u0_0] 24, .sl v4 37 2 (l3.map TBlock.row)]] (Cls w [] [.sl (sv b29 1) 37 2 (([(⟨x25.At, a1⟩ : TBlock)]).map TBlock.row), .obj b2 [.int .i64 0, .slice none 0 0] 24, .obj b1 [.int .i64 a0.Order, u0_0] 24, .sl v4 37 2 (l3.map TBlock.row)])) 12 (by kernel_rfl) (Sc.stay (fun _ hw => hw.sel [1, 2, 3, 4] (by decide) rfl) (Sc.stay (fun _ hw => hw.sel [1, 2, 3] (by decide) rfl) (Sc.stayD (fun _ hw => hw.sel [1, 2, 3] (by decide) rfl)))) (Sc.now (by kernel_rfl) (fun _ hw => hw)) ?_)
         refine V2.eff2 (i1 := 13) (i2 := 15) (by kernel_rfl) rfl rfl ?_ ?_
         ·
          refine L.appM (i := 1) (g := TBlock.row) (l := l26) (more := [(⟨x25.At, a1⟩ : TBlock)]) h rfl Try.underlying22 eL37 rfl rfl rfl (fun w hw => As.at_ (hw.get (i := 0) rfl)) (plain_TBlock _) rfl ?_
          intro v30 l31 el31 h
          refine L.nil (E.toV2 (stC [[16]] [Cls w [] [.sl v30 37 2 (l31.map TBlock.row), .sl (sv b29 1) 37 2 (([(⟨x25.At, a1⟩ : TBlock)]).map TBlock.row), .obj b2 [.int .i64 0, .slice none 0 0] 24, .obj b1 [.int .i64 a0.Order, u0_0] 24, .sl v4 37 2 (l3.map TBlock.row)]] (Cls w [] [.sl v30 37 2 (l31.map TBlock.row), .sl (sv b29 1) 37 2 (([(⟨x25.At, a1⟩ : TBlock)]).map TBlock.row), .obj b2 [.int .i64 0, .slice none 0 0] 24, .obj b1 [.int .i64 a0.Order, u0_0] 24, .sl v4 37 2 (l3.map TBlock.row)])) 13 (by kernel_rfl) (Sc.past rfl (Sc.stay (fun _ hw => hw.sel [1, 2, 3, 4] (by decide) rfl) (Sc.stayD (fun _ hw => hw.sel [1, 2, 3, 4] (by decide) rfl)))) (Sc.now (by kernel_rfl) (fun _ hw => hw)) ?_)
          refine V2.y (i := 14) (Nx2.of (Z := Cls w [] [.sl v30 37 2 (l31.map TBlock.row), .sl (sv b29 1) 37 2 (([(⟨x25.At, a1⟩ : TBlock)]).map TBlock.row), .obj b2 [.int .i64 0, .slice none 0 0] 24, .obj b1 [.int .i64 a0.Order, u0_0] 24, .sl v4 37 2 (l3.map TBlock.row)]) [] (by kernel_rfl) rfl (Zc.on (fun _ hw => hw) (Zc.fin (fun _ hw => hw)))) rfl rfl rfl (Y.buildC (cells := #[.int .i64 a0.Order, v30]) rfl (fun w hw => by rcases ((As.at_ (hw.get (i := 0) rfl))).shape with ⟨h0, _⟩ | ⟨_, _, h0, _, _⟩ <;> simp only [h0] <;> kernel_rfl)) ?_
          refine V2.eff (i := 15) (by kernel_rfl) rfl ?_
          refine L.alloc rfl ze24 ?_
          intro b32
          refine L.nil (E.toV2 (stC [[16]] [Cls w [] [.obj b32 [.int .i64 0, .slice none 0 0] 24, .sl v30 37 2 (l31.map TBlock.row), .sl (sv b29 1) 37 2 (([(⟨x25.At, a1⟩ : TBlock)]).map TBlock.row), .obj b2 [.int .i64 0, .slice none 0 0] 24, .obj b1 [.int .i64 a0.Order, u0_0] 24, .sl v4 37 2 (l3.map TBlock.row)]] (Cls w [] [.sl v30 37 2 (l31.map TBlock.row), .sl (sv b29 1) 37 2 (([(⟨x25.At, a1⟩ : TBlock)]).map TBlock.row), .obj b2 [.int .i64 0, .slice none 0 0] 24, .obj b1 [.int .i64 a0.Order, u0_0] 24, .sl v4 37 2 (l3.map TBlock.row)])) 15 (by kernel_rfl) (Sc.stay (fun _ hw => hw.sel [1, 2, 3, 4, 5] (by decide) rfl) (Sc.stayD (fun _ hw => hw))) (Sc.now (by kernel_rfl) (fun _ hw => hw)) ?_)
          refine V2.eff (i := 16) (by kernel_rfl) rfl ?_
          refine L.storeC (i := 0) sz24 rfl rfl rfl rfl (fun w hw => (all1 rfl (all1 (As.at_ (hw.get (i := 1) rfl)).one all0))) rfl (Nat.le_of_ble_eq_true rfl) ?_
          refine L.nil (E.toV2 (stC [] [] (Cls w [] [.sl v30 37 2 (l31.map TBlock.row), .sl (sv b29 1) 37 2 (([(⟨x25.At, a1⟩ : TBlock)]).map TBlock.row), .obj b2 [.int .i64 0, .slice none 0 0] 24, .obj b1 [.int .i64 a0.Order, u0_0] 24, .sl v4 37 2 (l3.map TBlock.row)])) 16 (by kernel_rfl) (Sc.past rfl (Sc.stayD (fun _ hw => hw))) (Sc.atD (fun _ hw => hw.sel [1, 2, 3, 4, 5] (by decide) rfl)) ?_)
          refine V2.done (by kernel_rfl) ?_
          exact E.joinJ ⟨b32, v30, l31, rfl, rfl, h⟩ ⟨rfl, rfl, rfl, rfl, trivial⟩ (fun _ hw => hw.sel [3, 5, 1, 0] (by decide) rfl)
         ·
          refine L.alloc rfl ze24 ?_
          intro b33
          refine L.nil (E.toV2 (stC [[13, 16], [16]] [Cls w [] [.obj b33 [.int .i64 0, .slice none 0 0] 24, .sl (sv b29 1) 37 2 (([(⟨x25.At, a1⟩ : TBlock)]).map TBlock.row), .sl v27 37 2 (l26.map TBlock.row), .obj b2 [.int .i64 0, .slice none 0 0] 24, .obj b1 [.int .i64 a0.Order, u0_0] 24, .sl v4 37 2 (l3.map TBlock.row)], Cls w [] [.obj b33 [.int .i64 0, .slice none 0 0] 24, .sl (sv b29 1) 37 2 (([(⟨x25.At, a1⟩ : TBlock)]).map TBlock.row), .obj b2 [.int .i64 0, .slice none 0 0] 24, .obj b1 [.int .i64 a0.Order, u0_0] 24, .sl v4 37 2 (l3.map TBlock.row)]] (Cls w [] [.sl (sv b29 1) 37 2 (([(⟨x25.At, a1⟩ : TBlock)]).map TBlock.row), .obj b2 [.int .i64 0, .slice none 0 0] 24, .obj b1 [.int .i64 a0.Order, u0_0] 24, .sl v4 37 2 (l3.map TBlock.row)])) 15 (by kernel_rfl) (Sc.stay (fun _ hw => hw.sel [1, 2, 3, 4, 5] (by decide) rfl) (Sc.stay (fun _ hw => hw.sel [1, 2, 3, 4] (by decide) rfl) (Sc.stayD (fun _ hw => hw)))) (Sc.now (by kernel_rfl) (fun _ hw => hw)) ?_)
          refine V2.eff (i := 13) (by kernel_rfl) rfl ?_
          refine L.appM (i := 2) (g := TBlock.row) (l := l26) (more := [(⟨x25.At, a1⟩ : TBlock)]) h rfl Try.underlying22 eL37 rfl rfl rfl (fun w hw => As.at_ (hw.get (i := 1) rfl)) (plain_TBlock _) rfl ?_
          intro v34 l35 el35 h
          refine L.nil (E.toV2 (stC [[16]] [Cls w [] [.sl v34 37 2 (l35.map TBlock.row), .obj b33 [.int .i64 0, .slice none 0 0] 24, .sl (sv b29 1) 37 2 (([(⟨x25.At, a1⟩ : TBlock)]).map TBlock.row), .obj b2 [.int .i64 0, .slice none 0 0] 24, .obj b1 [.int .i64 a0.Order, u0_0] 24, .sl v4 37 2 (l3.map TBlock.row)]] (Cls w [] [.sl v34 37 2 (l35.map TBlock.row), .sl (sv b29 1) 37 2 (([(⟨x25.At, a1⟩ : TBlock)]).map TBlock.row), .obj b2 [.int .i64 0, .slice none 0 0] 24, .obj b1 [.int .i64 a0.Order, u0_0] 24, .sl v4 37 2 (l3.map TBlock.row)])) 13 (by kernel_rfl) (Sc.past rfl (Sc.stay (fun _ hw => hw.sel [1, 2, 3, 4, 5] (by decide) rfl) (Sc.stayD (fun _ hw => hw.sel [1, 2, 3, 4] (by decide) rfl)))) (Sc.now (by kernel_rfl) (fun _ hw => hw)) ?_)
          refine V2.y (i := 14) (Nx2.of (Z := Cls w [] [.sl v34 37 2 (l35.map TBlock.row), .sl (sv b29 1) 37 2 (([(⟨x25.At, a1⟩ : TBlock)]).map TBlock.row), .obj b2 [.int .i64 0, .slice none 0 0] 24, .obj b1 [.int .i64 a0.Order, u0_0] 24, .sl v4 37 2 (l3.map TBlock.row)]) [] (by kernel_rfl) rfl (Zc.on (fun _ hw => hw.sel [0, 2, 3, 4, 5] (by decide) rfl) (Zc.fin (fun _ hw => hw)))) rfl rfl rfl (Y.buildC (cells := #[.int .i64 a0.Order, v34]) rfl (fun w hw => by rcases ((As.at_ (hw.get (i := 0) rfl))).shape with ⟨h0, _⟩ | ⟨_, _, h0, _, _⟩ <;> simp only [h0] <;> kernel_rfl)) ?_
          refine V2.eff (i := 16) (by kernel_rfl) rfl ?_
          refine L.storeC (i := 1) sz24 rfl rfl rfl rfl (fun w hw => (all1 rfl (all1 (As.at_ (hw.get (i := 0) rfl)).one all0))) rfl (Nat.le_of_ble_eq_true rfl) ?_
          refine L.nil (E.toV2 (stC [] [] (Cls w [] [.sl v34 37 2 (l35.map TBlock.row), .sl (sv b29 1) 37 2 (([(⟨x25.At, a1⟩ : TBlock)]).map TBlock.row), .obj b2 [.int .i64 0, .slice none 0 0] 24, .obj b1 [.int .i64 a0.Order, u0_0] 24, .sl v4 37 2 (l3.map TBlock.row)])) 16 (by kernel_rfl) (Sc.past rfl (Sc.stayD (fun _ hw => hw))) (Sc.atD (fun _ hw => hw.sel [0, 2, 3, 4, 5] (by decide) rfl)) ?_)
          refine V2.done (by kernel_rfl) ?_
          exact E.joinJ ⟨b33, v34, l35, rfl, rfl, h⟩ ⟨rfl, rfl, rfl, rfl, trivial⟩ (fun _ hw => hw.sel [3, 5, 0, 1] (by decide) rfl)
        ·
         refine L.alloc rfl ze24 ?_
         intro b36
         refine L.nil (E.toV2 (stC [[13, 16], [16]] [Cls w [] [.obj b36 [.int .i64 0, .slice none 0 0] 24, .sl v27 37 2 (l26.map TBlock.row), .obj b2 [.int .i64 0, .slice none 0 0] 24, .obj b1 [.int .i64 a0.Order, u0_0] 24, .sl v4 37 2 (l3.map TBlock.row)], Cls w [] [.obj b36 [.int .i64 0, .slice none 0 0] 24, .obj b2 [.int .i64 0, .slice none 0 0] 24, .obj b1 [.int .i64 a0.Order, u0_0] 24, .sl v4 37 2 (l3.map TBlock.row)]] (Cls w [] [.obj b2 [.int .i64 0, .slice none 0 0] 24, .obj b1 [.int .i64 a0.Order, u0_0] 24, .sl v4 37 2 (l3.map TBlock.row)])) 15 (by kernel_rfl) (Sc.stay (fun _ hw => hw.sel [1, 2, 3, 4] (by decide) rfl) (Sc.stay (fun _ hw => hw.sel [1, 2, 3] (by decide) rfl) (Sc.stayD (fun _ hw => hw)))) (Sc.now (by kernel_rfl) (fun _ hw => hw)) ?_)
         refine V2.eff (i := 12) (by kernel_rfl) rfl ?_
         refine L.litAgg rfl Try.underlying22 eL37 rfl rfl rfl ?_
         intro b37
         refine L.nil (E.toV2 (stC [[13, 16], [16]] [Cls w [] [.sl (sv b37 1) 37 2 (([(⟨x25.At, a1⟩ : TBlock)]).map TBlock.row), .obj b36 [.int .i64 0, .slice none 0 0] 24, .sl v27 37 2 (l26.map TBlock.row), .obj b2 [.int .i64 0, .slice none 0 0] 24, .obj b1 [.int .i64 a0.Order, u0_0] 24, .sl v4 37 2 (l3.map TBlock.row)], Cls w [] [.sl (sv b37 1) 37 2 (([(⟨x25.At, a1⟩ : TBlock)]).map TBlock.row), .obj b36 [.int .i64 0, .slice none 0 0] 24, .obj b2 [.int .i64 0, .slice none 0 0] 24, .obj b1 [.int .i64 a0.Order, u0_0] 24, .sl v4 37 2 (l3.map TBlock.row)]] (Cls w [] [.sl (sv b37 1) 37 2 (([(⟨x25.At, a1⟩ : TBlock)]).map TBlock.row), .obj b2 [.int .i64 0, .slice none 0 0] 24, .obj b1 [.int .i64 a0.Order, u0_0] 24, .sl v4 37 2 (l3.map TBlock.row)])) 12 (by kernel_rfl) (Sc.stay (fun _ hw => hw.sel [1, 2, 3, 4, 5] (by decide) rfl) (Sc.stay (fun _ hw => hw.sel [1, 2, 3, 4] (by decide) rfl) (Sc.stayD (fun _ hw => hw.sel [1, 2, 3] (by decide) rfl)))) (Sc.now (by kernel_rfl) (fun _ hw => hw)) ?_)
         refine V2.eff (i := 13) (by kernel_rfl) rfl ?_
         refine L.appM (i := 2) (g := TBlock.row) (l := l26) (more := [(⟨x25.At, a1⟩ : TBlock)]) h rfl Try.underlying22 eL37 rfl rfl rfl (fun w hw => As.at_ (hw.get (i := 0) rfl)) (plain_TBlock _) rfl ?_
         intro v38 l39 el39 h
         refine L.nil (E.toV2 (stC [[16]] [Cls w [] [.sl v38 37 2 (l39.map TBlock.row), .sl (sv b37 1) 37 2 (([(⟨x25.At, a1⟩ : TBlock)]).map TBlock.row), .obj b36 [.int .i64 0, .slice none 0 0] 24, .obj b2 [.int .i64 0, .slice none 0 0] 24, .obj b1 [.int .i64 a0.Order, u0_0] 24, .sl v4 37 2 (l3.map TBlock.row)]] (Cls w [] [.sl v38 37 2 (l39.map TBlock.row), .sl (sv b37 1) 37 2 (([(⟨x25.At, a1⟩ : TBlock)]).map TBlock.row), .obj b2 [.int .i64 0, .slice none 0 0] 24, .obj b1 [.int .i64 a0.Order, u0_0] 24, .sl v4 37 2 (l3.map TBlock.row)])) 13 (by kernel_rfl) (Sc.past rfl (Sc.stay (fun _ hw => hw.sel [1, 2, 3, 4, 5] (by decide) rfl) (Sc.stayD (fun _ hw => hw.sel [1, 2, 3, 4] (by decide) rfl)))) (Sc.now (by kernel_rfl) (fun _ hw => hw)) ?_)
         refine V2.y (i := 14) (Nx2.of (Z := Cls w [] [.sl v38 37 2 (l39.map TBlock.row), .sl (sv b37 1) 37 2 (([(⟨x25.At, a1⟩ : TBlock)]).map TBlock.row), .obj b2 [.int .i64 0, .slice none 0 0] 24, .obj b1 [.int .i64 a0.Order, u0_0] 24, .sl v4 37 2 (l3.map TBlock.row)]) [] (by kernel_rfl) rfl (Zc.on (fun _ hw => hw.sel [0, 1, 3, 4, 5] (by decide) rfl) (Zc.fin (fun _ hw => hw)))) rfl rfl rfl (Y.buildC (cells := #[.int .i64 a0.Order, v38]) rfl (fun w hw => by rcases ((As.at_ (hw.get (i := 0) rfl))).shape with ⟨h0, _⟩ | ⟨_, _, h0, _, _⟩ <;> simp only [h0] <;> kernel_rfl)) ?_
         refine V2.eff (i := 16) (by kernel_rfl) rfl ?_
         refine L.storeC (i := 2) sz24 rfl rfl rfl rfl (fun w hw => (all1 rfl (all1 (As.at_ (hw.get (i := 0) rfl)).one all0))) rfl (Nat.le_of_ble_eq_true rfl) ?_
         refine L.nil (E.toV2 (stC [] [] (Cls w [] [.sl v38 37 2 (l39.map TBlock.row), .sl (sv b37 1) 37 2 (([(⟨x25.At, a1⟩ : TBlock)]).map TBlock.row), .obj b2 [.int .i64 0, .slice none 0 0] 24, .obj b1 [.int .i64 a0.Order, u0_0] 24, .sl v4 37 2 (l3.map TBlock.row)])) 16 (by kernel_rfl) (Sc.past rfl (Sc.stayD (fun _ hw => hw))) (Sc.atD (fun _ hw => hw.sel [0, 1, 3, 4, 5] (by decide) rfl)) ?_)
         refine V2.done (by kernel_rfl) ?_
         exact E.joinJ ⟨b36, v38, l39, rfl, rfl, h⟩ ⟨rfl, rfl, rfl, rfl, trivial⟩ (fun _ hw => hw.sel [3, 5, 0, 2] (by decide) rfl)
       ·
        refine L.litAgg rfl Try.underlying22 eL37 rfl rfl rfl ?_
        intro b40
        refine L.nil (E.toV2 (stC [[13, 16], [16]] [Cls w [] [.sl (sv b40 1) 37 2 (([(⟨x25.At, a1⟩ : TBlock)]).map TBlock.row), .obj b2 [.int .i64 0, .slice none 0 0] 24, .obj b1 [.int .i64 a0.Order, u0_0] 24, .sl v4 37 2 (l3.map TBlock.row)], Cls w [] [.sl (sv b40 1) 37 2 (([(⟨x25.At, a1⟩ : TBlock)]).map TBlock.row), .obj b2 [.int .i64 0, .slice none 0 0] 24, .obj b1 [.int .i64 a0.Order, u0_0] 24, .sl v4 37 2 (l3.map TBlock.row)]] (Cls w [] [.sl (sv b40 1) 37 2 (([(⟨x25.At, a1⟩ : TBlock)]).map TBlock.row), .obj b2 [.int .i64 0, .slice none 0 0] 24, .obj b1 [.int .i64 a0.Order, u0_0] 24, .sl v4 37 2 (l3.map TBlock.row)])) 12 (by kernel_rfl) (Sc.stay (fun _ hw => hw.sel [1, 2, 3] (by decide) rfl) (Sc.stay (fun _ hw => hw.sel [1, 2, 3] (by decide) rfl) (Sc.stayD (fun _ hw => hw.sel [1, 2, 3] (by decide) rfl)))) (Sc.now (by kernel_rfl) (fun _ hw => hw)) ?_)
        refine V2.eff2 (i1 := 4) (i2 := 15) (by kernel_rfl) rfl rfl ?_ ?_
        ·
         obtain ⟨l41, e43, h⟩ := bind1S h
         refine L.does rfl en16 rfl (fun w' hw => w16_api_Block a0.Taken u0_0 w' _ e43 (hA0_0.cls0 hw)) ?_
         rintro v42 _ ⟨_, rfl, rfl⟩
         refine L.nil (E.toV2 (stC [[13, 16], [16]] [Cls w [] [.sl v42 37 2 (l41.map TBlock.row), .sl (sv b40 1) 37 2 (([(⟨x25.At, a1⟩ : TBlock)]).map TBlock.row), .obj b2 [.int .i64 0, .slice none 0 0] 24, .obj b1 [.int .i64 a0.Order, u0_0] 24, .sl v4 37 2 (l3.map TBlock.row)], Cls w [] [.sl (sv b40 1) 37 2 (([(⟨x25.At, a1⟩ : TBlock)]).map TBlock.row), .obj b2 [.int .i64 0, .slice none 0 0] 24, .obj b1 [.int .i64 a0.Order, u0_0] 24, .sl v4 37 2 (l3.map TBlock.row)]] (Cls w [] [.sl (sv b40 1) 37 2 (([(⟨x25.At, a1⟩ : TBlock)]).map TBlock.row), .obj b2 [.int .i64 0, .slice none 0 0] 24, .obj b1 [.int .i64 a0.Order, u0_0] 24, .sl v4 37 2 (l3.map TBlock.row)])) 4 (by kernel_rfl) (Sc.stay (fun _ hw => hw.sel [1, 2, 3, 4] (by decide) rfl) (Sc.stay (fun _ hw => hw) (Sc.stayD (fun _ hw => hw)))) (Sc.now (by kernel_rfl) (fun _ hw => hw)) ?_)
         refine V2.eff2 (i1 := 13) (i2 := 15) (by kernel_rfl) rfl rfl ?_ ?_
         ·
          refine L.appM (i := 0) (g := TBlock.row) (l := l41) (more := [(⟨x25.At, a1⟩ : TBlock)]) h rfl Try.underlying22 eL37 rfl rfl rfl (fun w hw => As.at_ (hw.get (i := 1) rfl)) (plain_TBlock _) rfl ?_
          intro v44 l45 el45 h
          refine L.nil (E.toV2 (stC [[16]] [Cls w [] [.sl v44 37 2 (l45.map TBlock.row), .sl (sv b40 1) 37 2 (([(⟨x25.At, a1⟩ : TBlock)]).map TBlock.row), .obj b2 [.int .i64 0, .slice none 0 0] 24, .obj b1 [.int .i64 a0.Order, u0_0] 24, .sl v4 37 2 (l3.map TBlock.row)]] (Cls w [] [.sl v44 37 2 (l45.map TBlock.row), .sl (sv b40 1) 37 2 (([(⟨x25.At, a1⟩ : TBlock)]).map TBlock.row), .obj b2 [.int .i64 0, .slice none 0 0] 24, .obj b1 [.int .i64 a0.Order, u0_0] 24, .sl v4 37 2 (l3.map TBlock.row)])) 13 (by kernel_rfl) (Sc.past rfl (Sc.stay (fun _ hw => hw.sel [1, 2, 3, 4] (by decide) rfl) (Sc.stayD (fun _ hw => hw.sel [1, 2, 3, 4] (by decide) rfl)))) (Sc.now (by kernel_rfl) (fun _ hw => hw)) ?_)
          refine V2.y (i := 14) (Nx2.of (Z := Cls w [] [.sl v44 37 2 (l45.map TBlock.row), .sl (sv b40 1) 37 2 (([(⟨x25.At, a1⟩ : TBlock)]).map TBlock.row), .obj b2 [.int .i64 0, .slice none 0 0] 24, .obj b1 [.int .i64 a0.Order, u0_0] 24, .sl v4 37 2 (l3.map TBlock.row)]) [] (by kernel_rfl) rfl (Zc.on (fun _ hw => hw) (Zc.fin (fun _ hw => hw)))) rfl rfl rfl (Y.buildC (cells := #[.int .i64 a0.Order, v44]) rfl (fun w hw => by rcases ((As.at_ (hw.get (i := 0) rfl))).shape with ⟨h0, _⟩ | ⟨_, _, h0, _, _⟩ <;> simp only [h0] <;> kernel_rfl)) ?_
          refine V2.eff (i := 15) (by kernel_rfl) rfl ?_
          refine L.alloc rfl ze24 ?_
          intro b46
          refine L.nil (E.toV2 (stC [[16]] [Cls w [] [.obj b46 [.int .i64 0, .slice none 0 0] 24, .sl v44 37 2 (l45.map TBlock.row), .sl (sv b40 1) 37 2 (([(⟨x25.At, a1⟩ : TBlock)]).map TBlock.row), .obj b2 [.int .i64 0, .slice none 0 0] 24, .obj b1 [.int .i64 a0.Order, u0_0] 24, .sl v4 37 2 (l3.map TBlock.row)]] (Cls w [] [.sl v44 37 2 (l45.map TBlock.row), .sl (sv b40 1) 37 2 (([(⟨x25.At, a1⟩ : TBlock)]).map TBlock.row), .obj b2 [.int .i64 0, .slice none 0 0] 24, .obj b1 [.int .i64 a0.Order, u0_0] 24, .sl v4 37 2 (l3.map TBlock.row)])) 15 (by kernel_rfl) (Sc.stay (fun _ hw => hw.sel [1, 2, 3, 4, 5] (by decide) rfl) (Sc.stayD (fun _ hw => hw))) (Sc.now (by kernel_rfl) (fun _ hw => hw)) ?_)
          refine V2.eff (i := 16) (by kernel_rfl) rfl ?_
          refine L.storeC (i := 0) sz24 rfl rfl rfl rfl (fun w hw => (all1 rfl (all1 (As.at_ (hw.get (i := 1) rfl)).one all0))) rfl (Nat.le_of_ble_eq_true rfl) ?_
          refine L.nil (E.toV2 (stC [] [] (Cls w [] [.sl v44 37 2 (l45.map TBlock.row), .sl (sv b40 1) 37 2 (([(⟨x25.At, a1⟩ : TBlock)]).map TBlock.row), .obj b2 [.int .i64 0, .slice none 0 0] 24, .obj b1 [.int .i64 a0.Order, u0_0] 24, .sl v4 37 2 (l3.map TBlock.row)])) 16 (by kernel_rfl) (Sc.past rfl (Sc.stayD (fun _ hw => hw))) (Sc.atD (fun _ hw => hw.sel [1, 2, 3, 4, 5] (by decide) rfl)) ?_)
          refine V2.done (by kernel_rfl) ?_
          exact E.joinJ ⟨b46, v44, l45, rfl, rfl, h⟩ ⟨rfl, rfl, rfl, rfl, trivial⟩ (fun _ hw => hw.sel [3, 5, 1, 0] (by decide) rfl)
         ·
          refine L.alloc rfl ze24 ?_
          intro b47
          refine L.nil (E.toV2 (stC [[13, 16], [16]] [Cls w [] [.obj b47 [.int .i64 0, .slice none 0 0] 24, .sl v42 37 2 (l41.map TBlock.row), .sl (sv b40 1) 37 2 (([(⟨x25.At, a1⟩ : TBlock)]).map TBlock.row), .obj b2 [.int .i64 0, .slice none 0 0] 24, .obj b1 [.int .i64 a0.Order, u0_0] 24, .sl v4 37 2 (l3.map TBlock.row)], Cls w [] [.obj b47 [.int .i64 0, .slice none 0 0] 24, .sl (sv b40 1) 37 2 (([(⟨x25.At, a1⟩ : TBlock)]).map TBlock.row), .obj b2 [.int .i64 0, .slice none 0 0] 24, .obj b1 [.int .i64 a0.Order, u0_0] 24, .sl v4 37 2 (l3.map TBlock.row)]] (Cls w [] [.sl (sv b40 1) 37 2 (([(⟨x25.At, a1⟩ : TBlock)]).map TBlock.row), .obj b2 [.int .i64 0, .slice none 0 0] 24, .obj b1 [.int .i64 a0.Order, u0_0] 24, .sl v4 37 2 (l3.map TBlock.row)])) 15 (by kernel_rfl) (Sc.stay (fun _ hw => hw.sel [1, 2, 3, 4, 5] (by decide) rfl) (Sc.stay (fun _ hw => hw.sel [1, 2, 3, 4] (by decide) rfl) (Sc.stayD (fun _ hw => hw)))) (Sc.now (by kernel_rfl) (fun _ hw => hw)) ?_)
          refine V2.eff (i := 13) (by kernel_rfl) rfl ?_
          refine L.appM (i := 1) (g := TBlock.row) (l := l41) (more := [(⟨x25.At, a1⟩ : TBlock)]) h rfl Try.underlying22 eL37 rfl rfl rfl (fun w hw => As.at_ (hw.get (i := 2) rfl)) (plain_TBlock _) rfl ?_
          intro v48 l49 el49 h
          refine L.nil (E.toV2 (stC [[16]] [Cls w [] [.sl v48 37 2 (l49.map TBlock.row), .obj b47 [.int .i64 0, .slice none 0 0] 24, .sl (sv b40 1) 37 2 (([(⟨x25.At, a1⟩ : TBlock)]).map TBlock.row), .obj b2 [.int .i64 0, .slice none 0 0] 24, .obj b1 [.int .i64 a0.Order, u0_0] 24, .sl v4 37 2 (l3.map TBlock.row)]] (Cls w [] [.sl v48 37 2 (l49.map TBlock.row), .sl (sv b40 1) 37 2 (([(⟨x25.At, a1⟩ : TBlock)]).map TBlock.row), .obj b2 [.int .i64 0, .slice none 0 0] 24, .obj b1 [.int .i64 a0.Order, u0_0] 24, .sl v4 37 2 (l3.map TBlock.row)])) 13 (by kernel_rfl) (Sc.past rfl (Sc.stay (fun _ hw => hw.sel [1, 2, 3, 4, 5] (by decide) rfl) (Sc.stayD (fun _ hw => hw.sel [1, 2, 3, 4] (by decide) rfl)))) (Sc.now (by kernel_rfl) (fun _ hw => hw)) ?_)
          refine V2.y (i := 14) (Nx2.of (Z := Cls w [] [.sl v48 37 2 (l49.map TBlock.row), .sl (sv b40 1) 37 2 (([(⟨x25.At, a1⟩ : TBlock)]).map TBlock.row), .obj b2 [.int .i64 0, .slice none 0 0] 24, .obj b1 [.int .i64 a0.Order, u0_0] 24, .sl v4 37 2 (l3.map TBlock.row)]) [] (by kernel_rfl) rfl (Zc.on (fun _ hw => hw.sel [0, 2, 3, 4, 5] (by decide) rfl) (Zc.fin (fun _ hw => hw)))) rfl rfl rfl (Y.buildC (cells := #[.int .i64 a0.Order, v48]) rfl (fun w hw => by rcases ((As.at_ (hw.get (i := 0) rfl))).shape with ⟨h0, _⟩ | ⟨_, _, h0, _, _⟩ <;> simp only [h0] <;> kernel_rfl)) ?_
          refine V2.eff (i := 16) (by kernel_rfl) rfl ?_
          refine L.storeC (i := 1) sz24 rfl rfl rfl rfl (fun w hw => (all1 rfl (all1 (As.at_ (hw.get (i := 0) rfl)).one all0))) rfl (Nat.le_of_ble_eq_true rfl) ?_
          refine L.nil (E.toV2 (stC [] [] (Cls w [] [.sl v48 37 2 (l49.map TBlock.row), .sl (sv b40 1) 37 2 (([(⟨x25.At, a1⟩ : TBlock)]).map TBlock.row), .obj b2 [.int .i64 0, .slice none 0 0] 24, .obj b1 [.int .i64 a0.Order, u0_0] 24, .sl v4 37 2 (l3.map TBlock.row)])) 16 (by kernel_rfl) (Sc.past rfl (Sc.stayD (fun _ hw => hw))) (Sc.atD (fun _ hw => hw.sel [0, 2, 3, 4, 5] (by decide) rfl)) ?_)
          refine V2.done (by kernel_rfl) ?_
          exact E.joinJ ⟨b47, v48, l49, rfl, rfl, h⟩ ⟨rfl, rfl, rfl, rfl, trivial⟩ (fun _ hw => hw.sel [3, 5, 0, 1] (by decide) rfl)
        ·
         refine L.alloc rfl ze24 ?_
         intro b50
         refine L.nil (E.toV2 (stC [[13, 16], [16]] [Cls w [] [.obj b50 [.int .i64 0, .slice none 0 0] 24, .sl (sv b40 1) 37 2 (([(⟨x25.At, a1⟩ : TBlock)]).map TBlock.row), .obj b2 [.int .i64 0, .slice none 0 0] 24, .obj b1 [.int .i64 a0.Order, u0_0] 24, .sl v4 37 2 (l3.map TBlock.row)], Cls w [] [.obj b50 [.int .i64 0, .slice none 0 0] 24, .sl (sv b40 1) 37 2 (([(⟨x25.At, a1⟩ : TBlock)]).map TBlock.row), .obj b2 [.int .i64 0, .slice none 0 0] 24, .obj b1 [.int .i64 a0.Order, u0_0] 24, .sl v4 37 2 (l3.map TBlock.row)]] (Cls w [] [.sl (sv b40 1) 37 2 (([(⟨x25.At, a1⟩ : TBlock)]).map TBlock.row), .obj b2 [.int .i64 0, .slice none 0 0] 24, .obj b1 [.int .i64 a0.Order, u0_0] 24, .sl v4 37 2 (l3.map TBlock.row)])) 15 (by kernel_rfl) (Sc.stay (fun _ hw => hw.sel [1, 2, 3, 4] (by decide) rfl) (Sc.stay (fun _ hw => hw.sel [1, 2, 3, 4] (by decide) rfl) (Sc.stayD (fun _ hw => hw)))) (Sc.now (by kernel_rfl) (fun _ hw => hw)) ?_)
         refine V2.eff (i := 4) (by kernel_rfl) rfl ?_
         obtain ⟨l51, e53, h⟩ := bind1S h
         refine L.does rfl en16 rfl (fun w' hw => w16_api_Block a0.Taken u0_0 w' _ e53 (hA0_0.cls0 hw)) ?_
         rintro v52 _ ⟨_, rfl, rfl⟩
         refine L.nil (E.toV2 (stC [[13, 16], [16]] [Cls w [] [.sl v52 37 2 (l51.map TBlock.row), .obj b50 [.int .i64 0, .slice none 0 0] 24, .sl (sv b40 1) 37 2 (([(⟨x25.At, a1⟩ : TBlock)]).map TBlock.row), .obj b2 [.int .i64 0, .slice none 0 0] 24, .obj b1 [.int .i64 a0.Order, u0_0] 24, .sl v4 37 2 (l3.map TBlock.row)], Cls w [] [.obj b50 [.int .i64 0, .slice none 0 0] 24, .sl (sv b40 1) 37 2 (([(⟨x25.At, a1⟩ : TBlock)]).map TBlock.row), .obj b2 [.int .i64 0, .slice none 0 0] 24, .obj b1 [.int .i64 a0.Order, u0_0] 24, .sl v4 37 2 (l3.map TBlock.row)]] (Cls w [] [.sl (sv b40 1) 37 2 (([(⟨x25.At, a1⟩ : TBlock)]).map TBlock.row), .obj b2 [.int .i64 0, .slice none 0 0] 24, .obj b1 [.int .i64 a0.Order, u0_0] 24, .sl v4 37 2 (l3.map TBlock.row)])) 4 (by kernel_rfl) (Sc.stay (fun _ hw => hw.sel [1, 2, 3, 4, 5] (by decide) rfl) (Sc.stay (fun _ hw => hw) (Sc.stayD (fun _ hw => hw)))) (Sc.now (by kernel_rfl) (fun _ hw => hw)) ?_)
         refine V2.eff (i := 13) (by kernel_rfl) rfl ?_
         refine L.appM (i := 0) (g := TBlock.row) (l := l51) (more := [(⟨x25.At, a1⟩ : TBlock)]) h rfl Try.underlying22 eL37 rfl rfl rfl (fun w hw => As.at_ (hw.get (i := 2) rfl)) (plain_TBlock _) rfl ?_
         intro v54 l55 el55 h
         refine L.nil (E.toV2 (stC [[16]] [Cls w [] [.sl v54 37 2 (l55.map TBlock.row), .obj b50 [.int .i64 0, .slice none 0 0] 24, .sl (sv b40 1) 37 2 (([(⟨x25.At, a1⟩ : TBlock)]).map TBlock.row), .obj b2 [.int .i64 0, .slice none 0 0] 24, .obj b1 [.int .i64 a0.Order, u0_0] 24, .sl v4 37 2 (l3.map TBlock.row)]] (Cls w [] [.sl v54 37 2 (l55.map TBlock.row), .sl (sv b40 1) 37 2 (([(⟨x25.At, a1⟩ : TBlock)]).map TBlock.row), .obj b2 [.int .i64 0, .slice none 0 0] 24, .obj b1 [.int .i64 a0.Order, u0_0] 24, .sl v4 37 2 (l3.map TBlock.row)])) 13 (by kernel_rfl) (Sc.past rfl (Sc.stay (fun _ hw => hw.sel [1, 2, 3, 4, 5] (by decide) rfl) (Sc.stayD (fun _ hw => hw.sel [1, 2, 3, 4] (by decide) rfl)))) (Sc.now (by kernel_rfl) (fun _ hw => hw)) ?_)
         refine V2.y (i := 14) (Nx2.of (Z := Cls w [] [.sl v54 37 2 (l55.map TBlock.row), .sl (sv b40 1) 37 2 (([(⟨x25.At, a1⟩ : TBlock)]).map TBlock.row), .obj b2 [.int .i64 0, .slice none 0 0] 24, .obj b1 [.int .i64 a0.Order, u0_0] 24, .sl v4 37 2 (l3.map TBlock.row)]) [] (by kernel_rfl) rfl (Zc.on (fun _ hw => hw.sel [0, 2, 3, 4, 5] (by decide) rfl) (Zc.fin (fun _ hw => hw)))) rfl rfl rfl (Y.buildC (cells := #[.int .i64 a0.Order, v54]) rfl (fun w hw => by rcases ((As.at_ (hw.get (i := 0) rfl))).shape with ⟨h0, _⟩ | ⟨_, _, h0, _, _⟩ <;> simp only [h0] <;> kernel_rfl)) ?_
         refine V2.eff (i := 16) (by kernel_rfl) rfl ?_
         refine L.storeC (i := 1) sz24 rfl rfl rfl rfl (fun w hw => (all1 rfl (all1 (As.at_ (hw.get (i := 0) rfl)).one all0))) rfl (Nat.le_of_ble_eq_true rfl) ?_
         refine L.nil (E.toV2 (stC [] [] (Cls w [] [.sl v54 37 2 (l55.map TBlock.row), .sl (sv b40 1) 37 2 (([(⟨x25.At, a1⟩ : TBlock)]).map TBlock.row), .obj b2 [.int .i64 0, .slice none 0 0] 24, .obj b1 [.int .i64 a0.Order, u0_0] 24, .sl v4 37 2 (l3.map TBlock.row)])) 16 (by kernel_rfl) (Sc.past rfl (Sc.stayD (fun _ hw => hw))) (Sc.atD (fun _ hw => hw.sel [0, 2, 3, 4, 5] (by decide) rfl)) ?_)
         refine V2.done (by kernel_rfl) ?_
         exact E.joinJ ⟨b50, v54, l55, rfl, rfl, h⟩ ⟨rfl, rfl, rfl, rfl, trivial⟩ (fun _ hw => hw.sel [3, 5, 0, 1] (by decide) rfl)
       ·
        refine L.alloc rfl ze24 ?_
        intro b56
        refine L.nil (E.toV2 (stC [[13, 16], [16]] [Cls w [] [.obj b56 [.int .i64 0, .slice none 0 0] 24, .obj b2 [.int .i64 0, .slice none 0 0] 24, .obj b1 [.int .i64 a0.Order, u0_0] 24, .sl v4 37 2 (l3.map TBlock.row)], Cls w [] [.obj b56 [.int .i64 0, .slice none 0 0] 24, .obj b2 [.int .i64 0, .slice none 0 0] 24, .obj b1 [.int .i64 a0.Order, u0_0] 24, .sl v4 37 2 (l3.map TBlock.row)]] (Cls w [] [.obj b2 [.int .i64 0, .slice none 0 0] 24, .obj b1 [.int .i64 a0.Order, u0_0] 24, .sl v4 37 2 (l3.map TBlock.row)])) 15 (by kernel_rfl) (Sc.stay (fun _ hw => hw.sel [1, 2, 3] (by decide) rfl) (Sc.stay (fun _ hw => hw.sel [1, 2, 3] (by decide) rfl) (Sc.stayD (fun _ hw => hw)))) (Sc.now (by kernel_rfl) (fun _ hw => hw)) ?_)
        refine V2.eff2 (i1 := 4) (i2 := 12) (by kernel_rfl) rfl rfl ?_ ?_
        ·
         obtain ⟨l57, e59, h⟩ := bind1S h
         refine L.does rfl en16 rfl (fun w' hw => w16_api_Block a0.Taken u0_0 w' _ e59 (hA0_0.cls0 hw)) ?_
         rintro v58 _ ⟨_, rfl, rfl⟩
         refine L.nil (E.toV2 (stC [[13, 16], [16]] [Cls w [] [.sl v58 37 2 (l57.map TBlock.row), .obj b56 [.int .i64 0, .slice none 0 0] 24, .obj b2 [.int .i64 0, .slice none 0 0] 24, .obj b1 [.int .i64 a0.Order, u0_0] 24, .sl v4 37 2 (l3.map TBlock.row)], Cls w [] [.obj b56 [.int .i64 0, .slice none 0 0] 24, .obj b2 [.int .i64 0, .slice none 0 0] 24, .obj b1 [.int .i64 a0.Order, u0_0] 24, .sl v4 37 2 (l3.map TBlock.row)]] (Cls w [] [.obj b2 [.int .i64 0, .slice none 0 0] 24, .obj b1 [.int .i64 a0.Order, u0_0] 24, .sl v4 37 2 (l3.map TBlock.row)])) 4 (by kernel_rfl) (Sc.stay (fun _ hw => hw.sel [1, 2, 3, 4] (by decide) rfl) (Sc.stay (fun _ hw => hw) (Sc.stayD (fun _ hw => hw)))) (Sc.now (by kernel_rfl) (fun _ hw => hw)) ?_)
         refine V2.eff (i := 12) (by kernel_rfl) rfl ?_
         refine L.litAgg rfl Try.underlying22 eL37 rfl rfl rfl ?_
         intro b60
         refine L.nil (E.toV2 (stC [[13, 16], [16]] [Cls w [] [.sl (sv b60 1) 37 2 (([(⟨x25.At, a1⟩ : TBlock)]).map TBlock.row), .sl v58 37 2 (l57.map TBlock.row), .obj b56 [.int .i64 0, .slice none 0 0] 24, .obj b2 [.int .i64 0, .slice none 0 0] 24, .obj b1 [.int .i64 a0.Order, u0_0] 24, .sl v4 37 2 (l3.map TBlock.row)], Cls w [] [.sl (sv b60 1) 37 2 (([(⟨x25.At, a1⟩ : TBlock)]).map TBlock.row), .obj b56 [.int .i64 0, .slice none 0 0] 24, .obj b2 [.int .i64 0, .slice none 0 0] 24, .obj b1 [.int .i64 a0.Order, u0_0] 24, .sl v4 37 2 (l3.map TBlock.row)]] (Cls w [] [.sl (sv b60 1) 37 2 (([(⟨x25.At, a1⟩ : TBlock)]).map TBlock.row), .obj b2 [.int .i64 0, .slice none 0 0] 24, .obj b1 [.int .i64 a0.Order, u0_0] 24, .sl v4 37 2 (l3.map TBlock.row)])) 12 (by kernel_rfl) (Sc.stay (fun _ hw => hw.sel [1, 2, 3, 4, 5] (by decide) rfl) (Sc.stay (fun _ hw => hw.sel [1, 2, 3, 4] (by decide) rfl) (Sc.stayD (fun _ hw => hw.sel [1, 2, 3] (by decide) rfl)))) (Sc.now (by kernel_rfl) (fun _ hw => hw)) ?_)
         refine V2.eff (i := 13) (by kernel_rfl) rfl ?_
         refine L.appM (i := 1) (g := TBlock.row) (l := l57) (more := [(⟨x25.At, a1⟩ : TBlock)]) h rfl Try.underlying22 eL37 rfl rfl rfl (fun w hw => As.at_ (hw.get (i := 0) rfl)) (plain_TBlock _) rfl ?_
         intro v61 l62 el62 h
         refine L.nil (E.toV2 (stC [[16]] [Cls w [] [.sl v61 37 2 (l62.map TBlock.row), .sl (sv b60 1) 37 2 (([(⟨x25.At, a1⟩ : TBlock)]).map TBlock.row), .obj b56 [.int .i64 0, .slice none 0 0] 24, .obj b2 [.int .i64 0, .slice none 0 0] 24, .obj b1 [.int .i64 a0.Order, u0_0] 24, .sl v4 37 2 (l3.map TBlock.row)]] (Cls w [] [.sl v61 37 2 (l62.map TBlock.row), .sl (sv b60 1) 37 2 (([(⟨x25.At, a1⟩ : TBlock)]).map TBlock.row), .obj b2 [.int .i64 0, .slice none 0 0] 24, .obj b1 [.int .i64 a0.Order, u0_0] 24, .sl v4 37 2 (l3.map TBlock.row)])) 13 (by kernel_rfl) (Sc.past rfl (Sc.stay (fun _ hw => hw.sel [1, 2, 3, 4, 5] (by decide) rfl) (Sc.stayD (fun _ hw => hw.sel [1, 2, 3, 4] (by decide) rfl)))) (Sc.now (by kernel_rfl) (fun _ hw => hw)) ?_)
         refine V2.y (i := 14) (Nx2.of (Z := Cls w [] [.sl v61 37 2 (l62.map TBlock.row), .sl (sv b60 1) 37 2 (([(⟨x25.At, a1⟩ : TBlock)]).map TBlock.row), .obj b2 [.int .i64 0, .slice none 0 0] 24, .obj b1 [.int .i64 a0.Order, u0_0] 24, .sl v4 37 2 (l3.map TBlock.row)]) [] (by kernel_rfl) rfl (Zc.on (fun _ hw => hw.sel [0, 1, 3, 4, 5] (by decide) rfl) (Zc.fin (fun _ hw => hw)))) rfl rfl rfl (Y.buildC (cells := #[.int .i64 a0.Order, v61]) rfl (fun w hw => by rcases ((As.at_ (hw.get (i := 0) rfl))).shape with ⟨h0, _⟩ | ⟨_, _, h0, _, _⟩ <;> simp only [h0] <;> kernel_rfl)) ?_
         refine V2.eff (i := 16) (by kernel_rfl) rfl ?_
         refine L.storeC (i := 2) sz24 rfl rfl rfl rfl (fun w hw => (all1 rfl (all1 (As.at_ (hw.get (i := 0) rfl)).one all0))) rfl (Nat.le_of_ble_eq_true rfl) ?_
         refine L.nil (E.toV2 (stC [] [] (Cls w [] [.sl v61 37 2 (l62.map TBlock.row), .sl (sv b60 1) 37 2 (([(⟨x25.At, a1⟩ : TBlock)]).map TBlock.row), .obj b2 [.int .i64 0, .slice none 0 0] 24, .obj b1 [.int .i64 a0.Order, u0_0] 24, .sl v4 37 2 (l3.map TBlock.row)])) 16 (by kernel_rfl) (Sc.past rfl (Sc.stayD (fun _ hw => hw))) (Sc.atD (fun _ hw => hw.sel [0, 1, 3, 4, 5] (by decide) rfl)) ?_)
         refine V2.done (by kernel_rfl) ?_
         exact E.joinJ ⟨b56, v61, l62, rfl, rfl, h⟩ ⟨rfl, rfl, rfl, rfl, trivial⟩ (fun _ hw => hw.sel [3, 5, 0, 2] (by decide) rfl)
        ·
         refine L.litAgg rfl Try.underlying22 eL37 rfl rfl rfl ?_
         intro b63
         refine L.nil (E.toV2 (stC [[13, 16], [16]] [Cls w [] [.sl (sv b63 1) 37 2 (([(⟨x25.At, a1⟩ : TBlock)]).map TBlock.row), .obj b56 [.int .i64 0, .slice none 0 0] 24, .obj b2 [.int .i64 0, .slice none 0 0] 24, .obj b1 [.int .i64 a0.Order, u0_0] 24, .sl v4 37 2 (l3.map TBlock.row)], Cls w [] [.sl (sv b63 1) 37 2 (([(⟨x25.At, a1⟩ : TBlock)]).map TBlock.row), .obj b56 [.int .i64 0, .slice none 0 0] 24, .obj b2 [.int .i64 0, .slice none 0 0] 24, .obj b1 [.int .i64 a0.Order, u0_0] 24, .sl v4 37 2 (l3.map TBlock.row)]] (Cls w [] [.sl (sv b63 1) 37 2 (([(⟨x25.At, a1⟩ : TBlock)]).map TBlock.row), .obj b2 [.int .i64 0, .slice none 0 0] 24, .obj b1 [.int .i64 a0.Order, u0_0] 24, .sl v4 37 2 (l3.map TBlock.row)])) 12 (by kernel_rfl) (Sc.stay (fun _ hw => hw.sel [1, 2, 3, 4] (by decide) rfl) (Sc.stay (fun _ hw => hw.sel [1, 2, 3, 4] (by decide) rfl) (Sc.stayD (fun _ hw => hw.sel [1, 2, 3] (by decide) rfl)))) (Sc.now (by kernel_rfl) (fun _ hw => hw)) ?_)
         refine V2.eff (i := 4) (by kernel_rfl) rfl ?_
         obtain ⟨l64, e66, h⟩ := bind1S h
         refine L.does rfl en16 rfl (fun w' hw => w16_api_Block a0.Taken u0_0 w' _ e66 (hA0_0.cls0 hw)) ?_
         rintro v65 _ ⟨_, rfl, rfl⟩
         refine L.nil (E.toV2 (stC [[13, 16], [16]] [Cls w [] [.sl v65 37 2 (l64.map TBlock.row), .sl (sv b63 1) 37 2 (([(⟨x25.At, a1⟩ : TBlock)]).map TBlock.row), .obj b56 [.int .i64 0, .slice none 0 0] 24, .obj b2 [.int .i64 0, .slice none 0 0] 24, .obj b1 [.int .i64 a0.Order, u0_0] 24, .sl v4 37 2 (l3.map TBlock.row)], Cls w [] [.sl (sv b63 1) 37 2 (([(⟨x25.At, a1⟩ : TBlock)]).map TBlock.row), .obj b56 [.int .i64 0, .slice none 0 0] 24, .obj b2 [.int .i64 0, .slice none 0 0] 24, .obj b1 [.int .i64 a0.Order, u0_0] 24, .sl v4 37 2 (l3.map TBlock.row)]] (Cls w [] [.sl (sv b63 1) 37 2 (([(⟨x25.At, a1⟩ : TBlock)]).map TBlock.row), .obj b2 [.int .i64 0, .slice none 0 0] 24, .obj b1 [.int .i64 a0.Order, u0_0] 24, .sl v4 37 2 (l3.map TBlock.row)])) 4 (by kernel_rfl) (Sc.stay (fun _ hw => hw.sel [1, 2, 3, 4, 5] (by decide) rfl) (Sc.stay (fun _ hw => hw) (Sc.stayD (fun _ hw => hw)))) (Sc.now (by kernel_rfl) (fun _ hw => hw)) ?_)
         refine V2.eff (i := 13) (by kernel_rfl) rfl ?_
         refine L.appM (i := 0) (g := TBlock.row) (l := l64) (more := [(⟨x25.At, a1⟩ : TBlock)]) h rfl Try.underlying22 eL37 rfl rfl rfl (fun w hw => As.at_ (hw.get (i := 1) rfl)) (plain_TBlock _) rfl ?_
         intro v67 l68 el68 h
         refine L.nil (E.toV2 (stC [[16]] [Cls w [] [.sl v67 37 2 (l68.map TBlock.row), .sl (sv b63 1) 37 2 (([(⟨x25.At, a1⟩ : TBlock)]).map TBlock.row), .obj b56 [.int .i64 0, .slice none 0 0] 24, .obj b2 [.int .i64 0, .slice none 0 0] 24, .obj b1 [.int .i64 a0.Order, u0_0] 24, .sl v4 37 2 (l3.map TBlock.row)]] (Cls w [] [.sl v67 37 2 (l68.map TBlock.row), .sl (sv b63 1) 37 2 (([(⟨x25.At, a1⟩ : TBlock)]).map TBlock.row), .obj b2 [.int .i64 0, .slice none 0 0] 24, .obj b1 [.int .i64 a0.Order, u0_0] 24, .sl v4 37 2 (l3.map TBlock.row)])) 13 (by kernel_rfl) (Sc.past rfl (Sc.stay (fun _ hw => hw.sel [1, 2, 3, 4, 5] (by decide) rfl) (Sc.stayD (fun _ hw => hw.sel [1, 2, 3, 4] (by decide) rfl)))) (Sc.now (by kernel_rfl) (fun _ hw => hw)) ?_)
         refine V2.y (i := 14) (Nx2.of (Z := Cls w [] [.sl v67 37 2 (l68.map TBlock.row), .sl (sv b63 1) 37 2 (([(⟨x25.At, a1⟩ : TBlock)]).map TBlock.row), .obj b2 [.int .i64 0, .slice none 0 0] 24, .obj b1 [.int .i64 a0.Order, u0_0] 24, .sl v4 37 2 (l3.map TBlock.row)]) [] (by kernel_rfl) rfl (Zc.on (fun _ hw => hw.sel [0, 1, 3, 4, 5] (by decide) rfl) (Zc.fin (fun _ hw => hw)))) rfl rfl rfl (Y.buildC (cells := #[.int .i64 a0.Order, v67]) rfl (fun w hw => by rcases ((As.at_ (hw.get (i := 0) rfl))).shape with ⟨h0, _⟩ | ⟨_, _, h0, _, _⟩ <;> simp only [h0] <;> kernel_rfl)) ?_
         refine V2.eff (i := 16) (by kernel_rfl) rfl ?_
         refine L.storeC (i := 2) sz24 rfl rfl rfl rfl (fun w hw => (all1 rfl (all1 (As.at_ (hw.get (i := 0) rfl)).one all0))) rfl (Nat.le_of_ble_eq_true rfl) ?_
         refine L.nil (E.toV2 (stC [] [] (Cls w [] [.sl v67 37 2 (l68.map TBlock.row), .sl (sv b63 1) 37 2 (([(⟨x25.At, a1⟩ : TBlock)]).map TBlock.row), .obj b2 [.int .i64 0, .slice none 0 0] 24, .obj b1 [.int .i64 a0.Order, u0_0] 24, .sl v4 37 2 (l3.map TBlock.row)])) 16 (by kernel_rfl) (Sc.past rfl (Sc.stayD (fun _ hw => hw))) (Sc.atD (fun _ hw => hw.sel [0, 1, 3, 4, 5] (by decide) rfl)) ?_)
         refine V2.done (by kernel_rfl) ?_
         exact E.joinJ ⟨b56, v67, l68, rfl, rfl, h⟩ ⟨rfl, rfl, rfl, rfl, trivial⟩ (fun _ hw => hw.sel [3, 5, 0, 2] (by decide) rfl)
      ·
       rintro _ _ ⟨gb2, gv3, gl4, rfl, rfl, h⟩
       rw [m6_buddy_Take_K5] at h
       refine W.seq (W.region (L.y rfl (Y.fieldP fd24_1 rfl) ?_))
       refine L.y rfl (Y.loadP (i := 3) ag22 rfl rfl rfl) ?_
       refine L.sortGMD (i := 2) (l := gl4) (enc := TBlock.row) (cf := (fun x y => (m19_buddy_Take_1 x y).getD 0)) h wSort18 (fun _ => rfl) swo19 en19 (fun x y w => (w19_buddy_Take_1 x y w _ (def19 x y)).mono (fun _ _ h => h.1)) rfl en18 rfl rfl rfl ?_
       intro l7 el7 h
       refine L.nil (E.thenN (W.seq (W.drawn2 (k := 9) (stC [[6]] [Cls w [] [.obj b2 [.int .i64 0, .slice none 0 0] 24, .sl v4 37 2 (l3.map TBlock.row), .sl gv3 37 2 (l7.map TBlock.row), .obj gb2 [.int .i64 a0.Order, gv3] 24]] (Cls w [] [.sl v4 37 2 (l3.map TBlock.row), .sl gv3 37 2 (l7.map TBlock.row), .obj gb2 [.int .i64 a0.Order, gv3] 24])) rfl mixed (fun _ hw => hw.drew) (Sc.now (by kernel_rfl) (fun _ hw => hw)) ?_)))
       refine V2.y (i := 0) (Nx2.of (Z := Cls w [] [.sl v4 37 2 (l3.map TBlock.row), .sl gv3 37 2 (l7.map TBlock.row), .obj gb2 [.int .i64 a0.Order, gv3] 24]) [] (by kernel_rfl) rfl (Zc.on (fun _ hw => hw.sel [1, 2, 3] (by decide) rfl) (Zc.fin (fun _ hw => hw)))) rfl rfl rfl (Y.loadPW (i := 2) ag24 sz24 rfl rfl rfl) ?_
       refine V2.y (i := 1) (Nx2.of (Z := Cls w [] [.sl v4 37 2 (l3.map TBlock.row), .sl gv3 37 2 (l7.map TBlock.row), .obj gb2 [.int .i64 a0.Order, gv3] 24]) [] (by kernel_rfl) rfl (Zc.on (fun _ hw => hw.sel [1, 2, 3] (by decide) rfl) (Zc.fin (fun _ hw => hw)))) rfl rfl rfl (Y.move rfl) ?_
       refine V2.y (i := 2) (Nx2.of (Z := Cls w [] [.sl v4 37 2 (l3.map TBlock.row), .sl gv3 37 2 (l7.map TBlock.row), .obj gb2 [.int .i64 a0.Order, gv3] 24]) [] (by kernel_rfl) rfl (Zc.on (fun _ hw => hw.sel [1, 2, 3] (by decide) rfl) (Zc.fin (fun _ hw => hw)))) rfl rfl rfl (Y.move rfl) ?_
       refine V2.m (i := 3) (V' := fun _ => el v4 (gx1.toNat * 2)) h (Nx2.of (Z := Cls w [] [.sl v4 37 2 (l3.map TBlock.row), .sl gv3 37 2 (l7.map TBlock.row), .obj gb2 [.int .i64 a0.Order, gv3] 24]) [] (by kernel_rfl) rfl (Zc.on (fun _ hw => hw.sel [1, 2, 3] (by decide) rfl) (Zc.fin (fun _ hw => hw)))) rfl rfl rfl (Y.indexM (g := TBlock.row) (l := l3) Try.underlying22 sz37 rfl rfl (fun w hw => As.at_ (hw.get (i := 0) rfl))) (fun x9 ex9 h => ?_)
       refine V2.y (i := 4) (Nx2.of (Z := Cls w [] [.sl v4 37 2 (l3.map TBlock.row), .sl gv3 37 2 (l7.map TBlock.row), .obj gb2 [.int .i64 a0.Order, gv3] 24]) [] (by kernel_rfl) rfl (Zc.on (fun _ hw => hw.sel [1, 2, 3] (by decide) rfl) (Zc.fin (fun _ hw => hw)))) rfl rfl rfl (Y.fieldE fd37_0 rfl) ?_
       refine V2.y (i := 5) (Nx2.of (Z := Cls w [] [.sl v4 37 2 (l3.map TBlock.row), .sl gv3 37 2 (l7.map TBlock.row), .obj gb2 [.int .i64 a0.Order, gv3] 24]) [] (by kernel_rfl) rfl (Zc.on (fun _ hw => hw.sel [1, 2, 3] (by decide) rfl) (Zc.fin (fun _ hw => hw)))) rfl rfl rfl (Y.loadE (u := .int .i64 x9.At) ag3 rfl (fun w hw => As.at_ (hw.get (i := 0) rfl)) (idx_map ex9) rfl) ?_
       refine V2.eff (i := 6) (by kernel_rfl) rfl ?_
       refine L.storeC (i := 0) sz24 rfl rfl rfl rfl (fun w hw => (all1 rfl (all1 (As.at_ (hw.get (i := 2) rfl)).one all0))) rfl (Nat.le_of_ble_eq_true rfl) ?_
       refine L.nil (E.toV2 (stC [] [] (Cls w [] [.sl v4 37 2 (l3.map TBlock.row), .sl gv3 37 2 (l7.map TBlock.row), .obj gb2 [.int .i64 a0.Order, gv3] 24])) 6 (by kernel_rfl) (Sc.past rfl (Sc.stayD (fun _ hw => hw))) (Sc.atD (fun _ hw => hw.sel [1, 2, 3] (by decide) rfl)) ?_)
       refine V2.y (i := 7) (Nx2.of (Z := Cls w [] [.sl v4 37 2 (l3.map TBlock.row), .sl gv3 37 2 (l7.map TBlock.row), .obj gb2 [.int .i64 a0.Order, gv3] 24]) [] (by kernel_rfl) rfl (Zc.fin (fun _ hw => hw))) rfl rfl rfl (Y.assign rfl) ?_
       refine V2.y (i := 8) (Nx2.of (Z := Cls w [] [.sl v4 37 2 (l3.map TBlock.row), .sl gv3 37 2 (l7.map TBlock.row), .obj gb2 [.int .i64 a0.Order, gv3] 24]) [] (by kernel_rfl) rfl (Zc.fin (fun _ hw => hw))) rfl rfl rfl (Y.assign rfl) ?_
       refine V2.done (by kernel_rfl) ?_
       refine E.thenN (W.ret (E.retR3 rfl (Rv.cellW (i := 0) ag24 sz24 rfl rfl rfl) (Rv.tmp rfl) (Rv.tmp rfl) (fun w1 hw => ?_)))
       obtain rfl := Option.some.inj h
       exact ⟨_, _, rfl, ⟨_, rfl, rfl⟩, hw.sel [2] (by decide) rfl⟩
set_option maxRecDepth 100000 in
set_option maxHeartbeats 8000000 in
theorem w7_buddy_Drop (a0 : TBuddy) (a1 : Int) (u0_0 : Value) (w : World) (r : (TBuddy × Int)) (h : m7_buddy_Drop a0 a1 = some r) (hA0_0 : At w u0_0 2 (a0.Taken.map TBlock.row)) : Does Try.prog 7 [.agg #[.int .i64 a0.Order, u0_0], .int .i64 a1] w fun u m => ∃ v0, u = .tuple #[.agg #[.int .i64 r.1.Order, v0], .int .i64 r.2] ∧ m = [.sl v0 37 2 (r.1.Taken.map TBlock.row)] := by
  rw [m7_buddy_Drop] at h
  refine body (n := 31) Try.func7 rfl rfl rfl (Cls.refl w) ?_
  refine W.seq (W.region (L.box rfl rfl ?_))
  intro b1
  refine L.box rfl rfl ?_
  intro b2
  refine L.alloc rfl ze24 ?_
  intro b3
  refine L.y rfl (Y.assign rfl) ?_
  refine L.nil (E.thenN (W.seqJ (fun gs D => gs = [(2, pt b1 0), (3, pt b2 0), (4, pt b3 0)] ∧ D = Cls w [] [.obj b3 [.int .i64 0, .slice none 0 0] 24, .obj b2 [.int .i64 a1] 3, .obj b1 [.int .i64 a0.Order, u0_0] 24] ∧ m7_buddy_Drop_K1 a0 a1 = some r) ?_ ?_))
  ·
   refine W.seq (W.region (L.y rfl (Y.loadPW (i := 2) ag24 sz24 rfl rfl rfl) ?_))
   obtain ⟨x27, e28, h⟩ := bind1S h
   refine L.y rfl (Y.does en8 rfl (fun w' hw => (w8_buddy_Check a0 u0_0 w' _ e28 (hA0_0.cls0 hw)).mono (fun _ _ h => h.1))) ?_
   refine L.y rfl (Y.assign rfl) ?_
   refine L.nil (E.thenN (W.seq (W.region (L.y rfl (Y.move rfl) ?_))))
   refine L.ite h rfl (Y.neq rfl rfl) (fun c29 h => ?_) (fun c29 h => ?_)
   ·
    refine L.nil (E.thenN (W.condT rfl ?_))
    refine W.seq (W.region (L.y rfl (Y.build (cells := #[.int .i64 0, .slice none 0 0]) rfl (by kernel_rfl)) ?_))
    refine L.y rfl (Y.move rfl) ?_
    refine L.store (i := 0) (vs := [.int .i64 0, .slice none 0 0]) sz24 rfl rfl rfl rfl (by simp [Value.oneCell', Value.cells, st, pt]) rfl (Nat.le_of_ble_eq_true rfl) ?_
    refine L.y rfl (Y.assign rfl) ?_
    refine L.nil (E.thenN (W.ret (E.KSR (E.retR2 rfl (Rv.cellW (i := 0) ag24 sz24 rfl rfl rfl) (Rv.tmp rfl) (fun w1 hw => ?_)))))
    obtain rfl := Option.some.inj h
    exact ⟨_, _, rfl, ⟨_, rfl, rfl⟩, (hw.nilSl 37 2).sel [0] (by decide) rfl⟩
   ·
    refine L.nil (E.thenN (W.condF rfl ?_))
    exact W.skip (E.joinJ ⟨rfl, rfl, h⟩ ⟨rfl, rfl, rfl, trivial⟩ (fun _ hw => hw))
  ·
   rintro _ _ ⟨rfl, rfl, h⟩
   rw [m7_buddy_Drop_K1] at h
   refine W.seq (W.region (L.y rfl (Y.fieldP fd24_1 rfl) ?_))
   refine L.y rfl (Y.loadP (i := 2) ag22 rfl rfl rfl) ?_
   refine L.y rfl (Y.func rfl) ?_
   refine L.callJ (fun v D => ∃ (gx1 : Int), v = .int .i64 gx1 ∧ D = Cls w [] [.obj b3 [.int .i64 0, .slice none 0 0] 24, .obj b1 [.int .i64 a0.Order, u0_0] 24] ∧ m7_buddy_Drop_K2 a0 gx1 = some r) rfl en12 rfl Try.func12 rfl rfl rfl ?_ ?_
   ·
    refine W.seq (W.region (L.y rfl (Y.assign rfl) ?_))
    refine L.nil (E.thenN (W.seqJ (fun gs D => gs = [] ∧ D = Cls w [] [.obj b3 [.int .i64 0, .slice none 0 0] 24, .obj b1 [.int .i64 a0.Order, u0_0] 24] ∧ m7_buddy_Drop_K4 a0 = some r) ?_ ?_))
    ·
     refine W.seq (W.region (L.y rfl (Y.move rfl) ?_))
     refine L.y rfl (Y.lenM (g := TBlock.row) (l := a0.Taken) Try.underlying22 rfl (fun w' hw => hA0_0.cls0 hw)) ?_
     refine L.y rfl (Y.move rfl) ?_
     refine L.nil (E.thenN (W.block (W.loopJ (fun m gs D => ∃ (gx2 : Int), gs = [(0, u0_0), (1, .func (.func 21) #[] #[pt b2 0]), (7, .int .i64 (a0.Taken.length : Int)), (8, .int .i64 gx2)] ∧ D = Cls w [] [.obj b3 [.int .i64 0, .slice none 0 0] 24, .obj b2 [.int .i64 a1] 3, .obj b1 [.int .i64 a0.Order, u0_0] 24] ∧ m7_buddy_Drop_L1 a0 a1 m gx2 = some r) ⟨0, rfl, rfl, h⟩ ⟨rfl, rfl, rfl, rfl, trivial⟩ (fun _ hw => hw) ?_)))
     rintro m _ _ ⟨gx2, rfl, rfl, h⟩
     rcases m with _ | m
     · rw [m7_buddy_Drop_L1] at h; cases h
     rw [m7_buddy_Drop_L1] at h
     generalize hg1 : m7_buddy_Drop_L1 a0 a1 m = go1 at h
     rw [m7_buddy_Drop_L1B] at h
     refine W.seq (W.region (L.ite h rfl (Y.lss rfl rfl) (fun c23 h => ?_) (fun c23 h => ?_)))
     ·
      refine L.nil (E.thenN (W.seq (W.condT rfl ?_)))
      refine W.skip (E.thenN (W.seq (W.block (W.seq (W.region (L.y rfl (Y.move rfl) ?_))))))
      refine L.y rfl (Y.assign rfl) ?_
      refine L.nil (E.thenN (W.seq (W.region (L.y rfl (Y.move rfl) ?_))))
      refine L.y rfl (Y.move rfl) ?_
      refine L.y rfl (Y.move rfl) ?_
      refine L.m (V := fun _ => el u0_0 (gx2.toNat * 2)) h rfl (Y.indexM (g := TBlock.row) (l := a0.Taken) Try.underlying22 sz37 rfl rfl (fun w' hw => hA0_0.cls0 hw)) (fun x24 ex24 h => ?_)
      refine L.y rfl (Y.loadEN (r := [.int .i64 x24.At, .int .i64 x24.Order]) ag37 sz37 rfl (fun w' hw => hA0_0.cls0 hw) (idx_map ex24) rfl) ?_
      refine L.callVJ (fun v D => v = .bool (decide (x24.At = a1)) ∧ D = Cls w [] [.obj b3 [.int .i64 0, .slice none 0 0] 24, .obj b2 [.int .i64 a1] 3, .obj b1 [.int .i64 a0.Order, u0_0] 24] ∧ m7_buddy_Drop_K5 x24 a1 a0 gx2 go1 = some r) rfl en21 rfl rfl Try.func21 rfl rfl rfl ?_ ?_
      ·
       refine W.seq (W.region (L.box rfl rfl ?_))
       intro b26
       refine L.y rfl (Y.assign rfl) ?_
       refine L.nil (E.thenN (W.seq (W.region (L.y rfl (Y.fieldP fd37_0 rfl) ?_))))
       refine L.y rfl (Y.loadP (i := 0) ag3 rfl rfl rfl) ?_
       refine L.y rfl (Y.loadP (i := 2) ag3 rfl rfl rfl) ?_
       refine L.y rfl (Y.eql rfl rfl) ?_
       refine L.y rfl (Y.assign rfl) ?_
       refine L.nil (E.thenN (W.ret (E.ret1 rfl rfl (fun w1 hw => ?_))))
       exact ⟨_, _, rfl, ⟨rfl, rfl, h⟩, hw.sel [1, 2, 3] (by decide) rfl⟩
      ·
       rintro _ _ ⟨rfl, rfl, h⟩
       rw [m7_buddy_Drop_K5] at h
       refine L.nil (E.thenN (W.caseB (q := 16) h rfl (fun h => ?_) (fun h => ?_)))
       ·
        refine W.condT rfl ?_
        refine W.seq (W.region (L.y rfl (Y.move rfl) ?_))
        refine L.y rfl (Y.assign rfl) ?_
        refine L.nil (E.thenN (W.ret (E.blockR (E.thenR (E.KLR (E.blockR (E.KSR (E.ret1 rfl rfl (fun w1 hw => ?_)))))))))
        exact ⟨_, _, rfl, ⟨gx2, rfl, rfl, h⟩, hw.sel [0, 2] (by decide) rfl⟩
       ·
        refine W.condF rfl ?_
        refine W.skip (E.blockN (E.thenN (W.region (L.m (V := fun x25 => .int .i64 x25) h rfl (Y.addM rfl rfl) (fun x25 ex25 h => ?_)))))
        refine L.y rfl (Y.move rfl) ?_
        exact L.nil (E.againJ ⟨x25, rfl, rfl, by rw [hg1]; exact h⟩ (Nat.lt_succ_self _) ⟨rfl, rfl, rfl, rfl, trivial⟩ (fun _ hw => hw))
     ·
      refine L.nil (E.thenN (W.seq (W.condF rfl ?_)))
      exact W.exit (E.thenX (E.KLX (E.blockX (E.joinJ ⟨rfl, rfl, h⟩ trivial (fun _ hw => hw.sel [0, 2] (by decide) rfl)))))
    ·
     rintro _ _ ⟨rfl, rfl, h⟩
     rw [m7_buddy_Drop_K4] at h
     refine W.seq (W.region (L.y rfl (Y.assign rfl) ?_))
     refine L.nil (E.thenN (W.ret (E.ret1 rfl rfl (fun w1 hw => ?_))))
     exact ⟨_, _, rfl, ⟨(-1), rfl, rfl, h⟩, hw⟩
   ·
    rintro _ _ ⟨gx1, rfl, rfl, h⟩
    rw [m7_buddy_Drop_K2] at h
    refine L.y rfl (Y.assign rfl) ?_
    refine L.nil (E.thenN (W.seqJ (fun gs D => gs = [(2, pt b1 0), (4, pt b3 0), (7, .int .i64 gx1)] ∧ D = Cls w [] [.obj b3 [.int .i64 0, .slice none 0 0] 24, .obj b1 [.int .i64 a0.Order, u0_0] 24] ∧ m7_buddy_Drop_K3 gx1 a0 = some r) ?_ ?_))
    ·
     refine W.seq (W.region (L.y rfl (Y.move rfl) ?_))
     refine L.ite h rfl (Y.lss rfl rfl) (fun c22 h => ?_) (fun c22 h => ?_)
     ·
      refine L.nil (E.thenN (W.condT rfl ?_))
      refine W.seq (W.region (L.y rfl (Y.build (cells := #[.int .i64 0, .slice none 0 0]) rfl (by kernel_rfl)) ?_))
      refine L.store (i := 0) (vs := [.int .i64 0, .slice none 0 0]) sz24 rfl rfl rfl rfl (by simp [Value.oneCell', Value.cells, st, pt]) rfl (Nat.le_of_ble_eq_true rfl) ?_
      refine L.y rfl (Y.assign rfl) ?_
      refine L.nil (E.thenN (W.ret (E.KSR (E.retR2 rfl (Rv.cellW (i := 0) ag24 sz24 rfl rfl rfl) (Rv.tmp rfl) (fun w1 hw => ?_)))))
      obtain rfl := Option.some.inj h
      exact ⟨_, _, rfl, ⟨_, rfl, rfl⟩, (hw.nilSl 37 2).sel [0] (by decide) rfl⟩
     ·
      refine L.nil (E.thenN (W.condF rfl ?_))
      exact W.skip (E.joinJ ⟨rfl, rfl, h⟩ ⟨rfl, rfl, rfl, trivial⟩ (fun _ hw => hw))
    ·
     rintro _ _ ⟨rfl, rfl, h⟩
     rw [m7_buddy_Drop_K3] at h
     refine W.seq (W.drawn2 (k := 12) (stC [[8, 10], [10]] [Cls w [] [.obj b3 [.int .i64 0, .slice none 0 0] 24, .obj b1 [.int .i64 a0.Order, u0_0] 24], Cls w [] [.obj b3 [.int .i64 0, .slice none 0 0] 24, .obj b1 [.int .i64 a0.Order, u0_0] 24]] (Cls w [] [.obj b1 [.int .i64 a0.Order, u0_0] 24])) rfl mixed (fun _ hw => hw.drew) (Sc.now (by kernel_rfl) (fun _ hw => hw)) ?_)
     refine V2.y (i := 0) (Nx2.of (Z := Cls w [] [.obj b1 [.int .i64 a0.Order, u0_0] 24]) [] (by kernel_rfl) rfl (Zc.on (fun _ hw => hw.sel [1] (by decide) rfl) (Zc.on (fun _ hw => hw.sel [1] (by decide) rfl) (Zc.fin (fun _ hw => hw))))) rfl rfl rfl (Y.fieldP fd24_0 rfl) ?_
     refine V2.y (i := 1) (Nx2.of (Z := Cls w [] [.obj b1 [.int .i64 a0.Order, u0_0] 24]) [] (by kernel_rfl) rfl (Zc.on (fun _ hw => hw.sel [1] (by decide) rfl) (Zc.on (fun _ hw => hw.sel [1] (by decide) rfl) (Zc.fin (fun _ hw => hw))))) rfl rfl rfl (Y.loadP (i := 0) ag3 rfl rfl rfl) ?_
     refine V2.y (i := 2) (Nx2.of (Z := Cls w [] [.obj b1 [.int .i64 a0.Order, u0_0] 24]) [] (by kernel_rfl) rfl (Zc.on (fun _ hw => hw.sel [1] (by decide) rfl) (Zc.on (fun _ hw => hw.sel [1] (by decide) rfl) (Zc.fin (fun _ hw => hw))))) rfl rfl rfl (Y.fieldP fd24_1 rfl) ?_
     refine V2.y (i := 3) (Nx2.of (Z := Cls w [] [.obj b1 [.int .i64 a0.Order, u0_0] 24]) [] (by kernel_rfl) rfl (Zc.on (fun _ hw => hw.sel [1] (by decide) rfl) (Zc.on (fun _ hw => hw.sel [1] (by decide) rfl) (Zc.fin (fun _ hw => hw))))) rfl rfl rfl (Y.loadP (i := 0) ag22 rfl rfl rfl) ?_
     refine V2.y (i := 5) (Nx2.of (Z := Cls w [] [.obj b1 [.int .i64 a0.Order, u0_0] 24]) [] (by kernel_rfl) rfl (Zc.on (fun _ hw => hw.sel [1] (by decide) rfl) (Zc.on (fun _ hw => hw.sel [1] (by decide) rfl) (Zc.fin (fun _ hw => hw))))) rfl rfl rfl (Y.move rfl) ?_
     refine V2.y (i := 6) (Nx2.of (Z := Cls w [] [.obj b1 [.int .i64 a0.Order, u0_0] 24]) [] (by kernel_rfl) rfl (Zc.on (fun _ hw => hw.sel [1] (by decide) rfl) (Zc.on (fun _ hw => hw.sel [1] (by decide) rfl) (Zc.fin (fun _ hw => hw))))) rfl rfl rfl (Y.move rfl) ?_
     refine V2.m (i := 7) (V' := fun x16 => .int .i64 x16) h (Nx2.of (Z := Cls w [] [.obj b1 [.int .i64 a0.Order, u0_0] 24]) [] (by kernel_rfl) rfl (Zc.on (fun _ hw => hw.sel [1] (by decide) rfl) (Zc.on (fun _ hw => hw.sel [1] (by decide) rfl) (Zc.fin (fun _ hw => hw))))) rfl rfl rfl (Y.addM rfl rfl) (fun x16 ex16 h => ?_)
     refine V2.eff (i := 4) (by kernel_rfl) rfl ?_
     obtain ⟨l17, e19, h⟩ := bind1S h
     refine L.does rfl en16 rfl (fun w' hw => w16_api_Block a0.Taken u0_0 w' _ e19 (hA0_0.cls0 hw)) ?_
     rintro v18 _ ⟨_, rfl, rfl⟩
     refine L.nil (E.toV2 (stC [[8, 10], [10]] [Cls w [] [.sl v18 37 2 (l17.map TBlock.row), .obj b3 [.int .i64 0, .slice none 0 0] 24, .obj b1 [.int .i64 a0.Order, u0_0] 24], Cls w [] [.obj b3 [.int .i64 0, .slice none 0 0] 24, .obj b1 [.int .i64 a0.Order, u0_0] 24]] (Cls w [] [.obj b1 [.int .i64 a0.Order, u0_0] 24])) 4 (by kernel_rfl) (Sc.stay (fun _ hw => hw.sel [1, 2] (by decide) rfl) (Sc.stay (fun _ hw => hw) (Sc.stayD (fun _ hw => hw)))) (Sc.now (by kernel_rfl) (fun _ hw => hw)) ?_)
     refine V2.eff (i := 8) (by kernel_rfl) rfl ?_
     refine L.delRD (i := 0) (l := l17) (a := gx1) (b := x16) h wDelR22 rfl en22 rfl rfl rfl rfl ?_
     intro v21 l20 el20 h
     refine L.nil (E.toV2 (stC [[10]] [Cls w [] [.sl v21 37 2 (l20.map TBlock.row), .obj b3 [.int .i64 0, .slice none 0 0] 24, .obj b1 [.int .i64 a0.Order, u0_0] 24]] (Cls w [] [.sl v21 37 2 (l20.map TBlock.row), .obj b1 [.int .i64 a0.Order, u0_0] 24])) 8 (by kernel_rfl) (Sc.past rfl (Sc.stay (fun _ hw => hw.sel [1, 2] (by decide) rfl) (Sc.stayD (fun _ hw => hw.sel [1] (by decide) rfl)))) (Sc.now (by kernel_rfl) (fun _ hw => hw)) ?_)
     refine V2.y (i := 9) (Nx2.of (Z := Cls w [] [.sl v21 37 2 (l20.map TBlock.row), .obj b1 [.int .i64 a0.Order, u0_0] 24]) [] (by kernel_rfl) rfl (Zc.on (fun _ hw => hw.sel [0, 2] (by decide) rfl) (Zc.fin (fun _ hw => hw)))) rfl rfl rfl (Y.buildC (cells := #[.int .i64 a0.Order, v21]) rfl (fun w hw => by rcases ((As.at_ (hw.get (i := 0) rfl))).shape with ⟨h0, _⟩ | ⟨_, _, h0, _, _⟩ <;> simp only [h0] <;> kernel_rfl)) ?_
     refine V2.eff (i := 10) (by kernel_rfl) rfl ?_
     refine L.storeC (i := 1) sz24 rfl rfl rfl rfl (fun w hw => (all1 rfl (all1 (As.at_ (hw.get (i := 0) rfl)).one all0))) rfl (Nat.le_of_ble_eq_true rfl) ?_
     refine L.nil (E.toV2 (stC [] [] (Cls w [] [.sl v21 37 2 (l20.map TBlock.row), .obj b1 [.int .i64 a0.Order, u0_0] 24])) 10 (by kernel_rfl) (Sc.past rfl (Sc.stayD (fun _ hw => hw))) (Sc.atD (fun _ hw => hw.sel [0, 2] (by decide) rfl)) ?_)
     refine V2.y (i := 11) (Nx2.of (Z := Cls w [] [.sl v21 37 2 (l20.map TBlock.row), .obj b1 [.int .i64 a0.Order, u0_0] 24]) [] (by kernel_rfl) rfl (Zc.fin (fun _ hw => hw))) rfl rfl rfl (Y.assign rfl) ?_
     refine V2.done (by kernel_rfl) ?_
     refine E.thenN (W.ret (E.retR2 rfl (Rv.cellW (i := 1) ag24 sz24 rfl rfl rfl) (Rv.tmp rfl) (fun w1 hw => ?_)))
     obtain rfl := Option.some.inj h
     exact ⟨_, _, rfl, ⟨_, rfl, rfl⟩, hw.sel [0] (by decide) rfl⟩
set_option maxRecDepth 100000 in
set_option maxHeartbeats 8000000 in
theorem w11_api_Block (a0 : (List TBlock)) (a1 : (List TBlock)) (u0 : Value) (u1 : Value) (w : World) (r : Bool) (h : m11_api_Block a0 a1 = some r) (hA0 : At w u0 2 (a0.map TBlock.row)) (hA1 : At w u1 2 (a1.map TBlock.row)) : Does Try.prog 11 [u0, u1] w fun u m => u = .bool r ∧ m = [] := by
  rw [m11_api_Block] at h
  refine body (n := 26) Try.func11 rfl rfl rfl (Cls.refl w) ?_
  refine W.seq (W.region (L.y rfl (Y.assign rfl) ?_))
  refine L.nil (E.thenN (W.seqJ (fun gs D => gs = [(0, u0), (1, u1)] ∧ D = Cls w [] [] ∧ m11_api_Block_K1 a0 a1 = some r) ?_ ?_))
  ·
   refine W.seq (W.region (L.y rfl (Y.move rfl) ?_))
   refine L.y rfl (Y.lenM (g := TBlock.row) (l := a0) Try.underlying22 rfl (fun w' hw => hA0.cls0 hw)) ?_
   refine L.y rfl (Y.move rfl) ?_
   refine L.y rfl (Y.lenM (g := TBlock.row) (l := a1) Try.underlying22 rfl (fun w' hw => hA1.cls0 hw)) ?_
   refine L.ite h rfl (Y.neq rfl rfl) (fun c6 h => ?_) (fun c6 h => ?_)
   ·
    refine L.nil (E.thenN (W.condT rfl ?_))
    refine W.seq (W.region (L.y rfl (Y.assign rfl) ?_))
    refine L.nil (E.thenN (W.ret (E.KSR (E.ret1 rfl rfl (fun w1 hw => ?_)))))
    obtain rfl := Option.some.inj h
    exact ⟨_, _, rfl, ⟨rfl, rfl⟩, hw⟩
   ·
    refine L.nil (E.thenN (W.condF rfl ?_))
    exact W.skip (E.joinJ ⟨rfl, rfl, h⟩ ⟨rfl, rfl, trivial⟩ (fun _ hw => hw))
  ·
   rintro _ _ ⟨rfl, rfl, h⟩
   rw [m11_api_Block_K1] at h
   refine W.seqJ (fun gs D => gs = [] ∧ D = Cls w [] [] ∧ m11_api_Block_K2 = some r) ?_ ?_
   ·
    refine W.seq (W.region (L.y rfl (Y.move rfl) ?_))
    refine L.y rfl (Y.lenM (g := TBlock.row) (l := a0) Try.underlying22 rfl (fun w' hw => hA0.cls0 hw)) ?_
    refine L.y rfl (Y.move rfl) ?_
    refine L.nil (E.thenN (W.block (W.loopJ (fun m gs D => ∃ (gx1 : Int), gs = [(0, u0), (1, u1), (12, .int .i64 (a0.length : Int)), (13, .int .i64 gx1)] ∧ D = Cls w [] [] ∧ m11_api_Block_L1 a0 a1 m gx1 = some r) ⟨0, rfl, rfl, h⟩ ⟨rfl, rfl, rfl, rfl, trivial⟩ (fun _ hw => hw) ?_)))
    rintro m _ _ ⟨gx1, rfl, rfl, h⟩
    rcases m with _ | m
    · rw [m11_api_Block_L1] at h; cases h
    rw [m11_api_Block_L1] at h
    generalize hg1 : m11_api_Block_L1 a0 a1 m = go1 at h
    rw [m11_api_Block_L1B] at h
    refine W.seq (W.region (L.ite h rfl (Y.lss rfl rfl) (fun c1 h => ?_) (fun c1 h => ?_)))
    ·
     refine L.nil (E.thenN (W.seq (W.condT rfl ?_)))
     refine W.skip (E.thenN (W.seq (W.block (W.seq (W.region (L.y rfl (Y.move rfl) ?_))))))
     refine L.y rfl (Y.assign rfl) ?_
     refine L.nil (E.thenN (W.seq (W.quietC mixed (by kernel_rfl) (fun _ hw => hw.drew) (fun hC => ?_))))
     refine U.y rfl (Y.move rfl) ?_
     refine U.y rfl (Y.move rfl) ?_
     refine U.m (V := fun _ => el u0 (gx1.toNat * 2)) h rfl (Y.indexM (g := TBlock.row) (l := a0) Try.underlying22 sz37 rfl rfl (fun w' hw => hA0.cls0 hw)) (fun x2 ex2 h => ?_)
     refine U.y rfl (Y.loadEN (r := [.int .i64 x2.At, .int .i64 x2.Order]) ag37 sz37 rfl (fun w' hw => hA0.cls0 hw) (idx_map ex2) rfl) ?_
     refine U.y rfl (Y.move rfl) ?_
     refine U.y rfl (Y.move rfl) ?_
     refine U.m (V := fun _ => el u1 (gx1.toNat * 2)) h rfl (Y.indexM (g := TBlock.row) (l := a1) Try.underlying22 sz37 rfl rfl (fun w' hw => hA1.cls0 hw)) (fun x3 ex3 h => ?_)
     refine U.y rfl (Y.loadEN (r := [.int .i64 x3.At, .int .i64 x3.Order]) ag37 sz37 rfl (fun w' hw => hA1.cls0 hw) (idx_map ex3) rfl) ?_
     refine U.ite h rfl (Y.neqA (row := TBlock.row) (a := x2) (b := x3) eg37 ag37 (sh37 _) (sh37 _) (inj37 _ _) rfl rfl) (fun c4 h => ?_) (fun c4 h => ?_)
     ·
      refine U.nil (E.thenN (W.condT rfl ?_))
      refine W.seq (W.region (L.y rfl (Y.assign rfl) ?_))
      refine L.nil (E.thenN (W.ret (E.blockR (E.thenR (E.KLR (E.blockR (E.KSR (E.ret1 rfl rfl (fun w1 hw => ?_)))))))))
      obtain rfl := Option.some.inj h
      exact ⟨_, _, rfl, ⟨rfl, rfl⟩, hw⟩
     ·
      refine U.nil (E.thenN (W.condF rfl ?_))
      refine W.skip (E.blockN (E.thenN (W.region (L.m (V := fun x5 => .int .i64 x5) h rfl (Y.addM rfl rfl) (fun x5 ex5 h => ?_)))))
      refine L.y rfl (Y.move rfl) ?_
      exact L.nil (E.againJ ⟨x5, rfl, rfl, by rw [hg1]; exact h⟩ (Nat.lt_succ_self _) ⟨rfl, rfl, rfl, rfl, trivial⟩ (fun _ hw => hw))
    ·
     refine L.nil (E.thenN (W.seq (W.condF rfl ?_)))
     exact W.exit (E.thenX (E.KLX (E.blockX (E.joinJ ⟨rfl, rfl, h⟩ trivial (fun _ hw => hw)))))
   ·
    rintro _ _ ⟨rfl, rfl, h⟩
    rw [m11_api_Block_K2] at h
    refine W.seq (W.region (L.y rfl (Y.assign rfl) ?_))
    refine L.nil (E.thenN (W.ret (E.ret1 rfl rfl (fun w1 hw => ?_))))
    obtain rfl := Option.some.inj h
    exact ⟨_, _, rfl, ⟨rfl, rfl⟩, hw⟩
set_option maxRecDepth 100000 in
set_option maxHeartbeats 8000000 in
theorem w9_quirref_SameBuddy (a0 : TBuddy) (a1 : TBuddy) (u0_0 : Value) (u1_1 : Value) (w : World) (r : Bool) (h : m9_quirref_SameBuddy a0 a1 = some r) (hA0_0 : At w u0_0 2 (a0.Taken.map TBlock.row)) (hA1_1 : At w u1_1 2 (a1.Taken.map TBlock.row)) : Does Try.prog 9 [.agg #[.int .i64 a0.Order, u0_0], .agg #[.int .i64 a1.Order, u1_1]] w fun u m => u = .bool r ∧ m = [] := by
  rw [m9_quirref_SameBuddy] at h
  refine body (n := 17) Try.func9 rfl rfl rfl (Cls.refl w) ?_
  refine W.seq (W.region (L.box rfl rfl ?_))
  intro b1
  refine L.box rfl rfl ?_
  intro b2
  refine L.y rfl (Y.assign rfl) ?_
  refine L.nil (E.thenN (W.seq (W.region (L.y rfl (Y.fieldP fd24_0 rfl) ?_))))
  refine L.y rfl (Y.loadP (i := 1) ag3 rfl rfl rfl) ?_
  refine L.y rfl (Y.fieldP fd24_0 rfl) ?_
  refine L.y rfl (Y.loadP (i := 0) ag3 rfl rfl rfl) ?_
  refine L.ite h rfl (Y.eql rfl rfl) (fun c3 h => ?_) (fun c3 h => ?_)
  ·
   refine L.y rfl (Y.move rfl) ?_
   refine L.take rfl (L.y rfl (Y.fieldP fd24_1 rfl) ?_)
   refine L.take rfl (L.y rfl (Y.loadP (i := 1) ag22 rfl rfl rfl) ?_)
   refine L.take rfl (L.y rfl (Y.fieldP fd24_1 rfl) ?_)
   refine L.take rfl (L.y rfl (Y.loadP (i := 0) ag22 rfl rfl rfl) ?_)
   refine L.take rfl ?_
   obtain ⟨b4, e5, h⟩ := bind1S h
   refine L.y rfl (Y.does en11 rfl (fun w' hw => (w11_api_Block a0.Taken a1.Taken u0_0 u1_1 w' _ e5 (hA0_0.cls0 hw) (hA1_1.cls0 hw)).mono (fun _ _ h => h.1))) ?_
   refine L.y rfl (Y.pickT rfl rfl) ?_
   refine L.y rfl (Y.assign rfl) ?_
   refine L.nil (E.thenN (W.ret (E.ret1 rfl rfl (fun w1 hw => ?_))))
   obtain rfl := Option.some.inj h
   exact ⟨_, _, rfl, ⟨rfl, rfl⟩, hw.sel [] (by decide) rfl⟩
  ·
   refine L.y rfl (Y.move rfl) ?_
   refine L.pass rfl rfl (by nofun) ?_
   refine L.pass rfl rfl (by nofun) ?_
   refine L.pass rfl rfl (by nofun) ?_
   refine L.pass rfl rfl (by nofun) ?_
   refine L.pass rfl rfl (by nofun) ?_
   refine L.y rfl (Y.pickF rfl rfl) ?_
   refine L.y rfl (Y.assign rfl) ?_
   refine L.nil (E.thenN (W.ret (E.ret1 rfl rfl (fun w1 hw => ?_))))
   obtain rfl := Option.some.inj h
   exact ⟨_, _, rfl, ⟨rfl, rfl⟩, hw.sel [] (by decide) rfl⟩
set_option maxRecDepth 100000 in
set_option maxHeartbeats 8000000 in
theorem w31_slices_Index_bool (a0 : (List Bool)) (a1 : Bool) (u0 : Value) (w : World) (r : Int) (h : m31_slices_Index_bool a0 a1 = some r) (hA0 : At w u0 1 (a0.map B)) : Does Try.prog 31 [u0, .bool a1] w fun u m => u = .int .i64 r ∧ m = [] := by
  rw [m31_slices_Index_bool] at h
  refine body (n := 19) Try.func31 rfl rfl rfl (Cls.refl w) ?_
  refine W.seq (W.region (L.y rfl (Y.assign rfl) ?_))
  refine L.nil (E.thenN (W.seqJ (fun gs D => gs = [] ∧ D = Cls w [] [] ∧ m31_slices_Index_bool_K1 = some r) ?_ ?_))
  ·
   refine W.seq (W.region (L.y rfl (Y.move rfl) ?_))
   refine L.y rfl (Y.lenM (g := B) (l := a0) Try.underlying49 rfl (fun w' hw => hA0.cls0 hw)) ?_
   refine L.y rfl (Y.move rfl) ?_
   refine L.nil (E.thenN (W.block (W.loopJ (fun m gs D => ∃ (gx1 : Int), gs = [(0, u0), (1, .bool a1), (7, .int .i64 (a0.length : Int)), (8, .int .i64 gx1)] ∧ D = Cls w [] [] ∧ m31_slices_Index_bool_L1 a0 a1 m gx1 = some r) ⟨0, rfl, rfl, h⟩ ⟨rfl, rfl, rfl, rfl, trivial⟩ (fun _ hw => hw) ?_)))
   rintro m _ _ ⟨gx1, rfl, rfl, h⟩
   rcases m with _ | m
   · rw [m31_slices_Index_bool_L1] at h; cases h
   rw [m31_slices_Index_bool_L1] at h
   generalize hg1 : m31_slices_Index_bool_L1 a0 a1 m = go1 at h
   rw [m31_slices_Index_bool_L1B] at h
   refine W.seq (W.region (L.ite h rfl (Y.lss rfl rfl) (fun c1 h => ?_) (fun c1 h => ?_)))
   ·
    refine L.nil (E.thenN (W.seq (W.condT rfl ?_)))
    refine W.skip (E.thenN (W.seq (W.block (W.seq (W.region (L.y rfl (Y.move rfl) ?_))))))
    refine L.y rfl (Y.assign rfl) ?_
    refine L.nil (E.thenN (W.seq (W.region (L.y rfl (Y.move rfl) ?_))))
    refine L.y rfl (Y.move rfl) ?_
    refine L.y rfl (Y.move rfl) ?_
    refine L.m (V := fun _ => el u0 (gx1.toNat * 1)) h rfl (Y.indexM (g := B) (l := a0) Try.underlying49 sz4 rfl rfl (fun w' hw => hA0.cls0 hw)) (fun x2 ex2 h => ?_)
    refine L.y rfl (Y.loadE1 (u := .bool x2) ag4 rfl (fun w' hw => hA0.cls0 hw) (idx_map ex2)) ?_
    refine L.iteB h rfl (Y.eqlB Try.underlying4 rfl rfl) (fun c3 h => ?_) (fun c3 h => ?_)
    ·
     refine L.nil (E.thenN (W.condT rfl ?_))
     refine W.seq (W.region (L.y rfl (Y.move rfl) ?_))
     refine L.y rfl (Y.assign rfl) ?_
     refine L.nil (E.thenN (W.ret (E.blockR (E.thenR (E.KLR (E.blockR (E.KSR (E.ret1 rfl rfl (fun w1 hw => ?_)))))))))
     obtain rfl := Option.some.inj h
     exact ⟨_, _, rfl, ⟨rfl, rfl⟩, hw⟩
    ·
     refine L.nil (E.thenN (W.condF rfl ?_))
     refine W.skip (E.blockN (E.thenN (W.region (L.m (V := fun x4 => .int .i64 x4) h rfl (Y.addM rfl rfl) (fun x4 ex4 h => ?_)))))
     refine L.y rfl (Y.move rfl) ?_
     exact L.nil (E.againJ ⟨x4, rfl, rfl, by rw [hg1]; exact h⟩ (Nat.lt_succ_self _) ⟨rfl, rfl, rfl, rfl, trivial⟩ (fun _ hw => hw))
   ·
    refine L.nil (E.thenN (W.seq (W.condF rfl ?_)))
    exact W.exit (E.thenX (E.KLX (E.blockX (E.joinJ ⟨rfl, rfl, h⟩ trivial (fun _ hw => hw)))))
  ·
   rintro _ _ ⟨rfl, rfl, h⟩
   rw [m31_slices_Index_bool_K1] at h
   refine W.seq (W.region (L.y rfl (Y.assign rfl) ?_))
   refine L.nil (E.thenN (W.ret (E.ret1 rfl rfl (fun w1 hw => ?_))))
   obtain rfl := Option.some.inj h
   exact ⟨_, _, rfl, ⟨rfl, rfl⟩, hw⟩
set_option maxRecDepth 100000 in
set_option maxHeartbeats 8000000 in
theorem w24_slices_Contains_bool (a0 : (List Bool)) (a1 : Bool) (u0 : Value) (w : World) (r : Bool) (h : m24_slices_Contains_bool a0 a1 = some r) (hA0 : At w u0 1 (a0.map B)) : Does Try.prog 24 [u0, .bool a1] w fun u m => u = .bool r ∧ m = [] := by
  rw [m24_slices_Contains_bool] at h
  refine body (n := 9) Try.func24 rfl rfl rfl (Cls.refl w) ?_
  refine W.seq (W.region (L.y rfl (Y.assign rfl) ?_))
  refine L.nil (E.thenN (W.seq (W.region (L.y rfl (Y.move rfl) ?_))))
  refine L.y rfl (Y.move rfl) ?_
  obtain ⟨x1, e2, h⟩ := bind1S h
  refine L.y rfl (Y.does en31 rfl (fun w' hw => (w31_slices_Index_bool a0 a1 u0 w' _ e2 (hA0.cls0 hw)).mono (fun _ _ h => h.1))) ?_
  refine L.y rfl (Y.geq rfl rfl) ?_
  refine L.y rfl (Y.assign rfl) ?_
  refine L.nil (E.thenN (W.ret (E.ret1 rfl rfl (fun w1 hw => ?_))))
  obtain rfl := Option.some.inj h
  exact ⟨_, _, rfl, ⟨rfl, rfl⟩, hw⟩
set_option maxRecDepth 100000 in
set_option maxHeartbeats 8000000 in
theorem w10_quirref_BuddyFree (a0 : TBuddy) (u0_0 : Value) (w : World) (r : (List TBlock)) (h : m10_quirref_BuddyFree a0 = some r) (hA0_0 : At w u0_0 2 (a0.Taken.map TBlock.row)) : Does Try.prog 10 [.agg #[.int .i64 a0.Order, u0_0]] w fun u m => ∃ v0, u = v0 ∧ m = [.sl v0 37 2 (r.map TBlock.row)] := by
  rw [m10_quirref_BuddyFree] at h
  refine body (n := 66) Try.func10 rfl rfl rfl (Cls.refl w) ?_
  refine W.seq (W.region (L.box rfl rfl ?_))
  intro b1
  refine L.y rfl (Y.assign rfl) ?_
  refine L.nil (E.thenN (W.seq (W.region (L.y rfl (Y.fieldP fd24_0 rfl) ?_))))
  refine L.y rfl (Y.loadP (i := 0) ag3 rfl rfl rfl) ?_
  refine L.m (V := fun x2 => .int .i64 x2) h rfl (Y.shlM rfl rfl) (fun x2 ex2 h => ?_)
  refine L.y rfl (Y.assign rfl) ?_
  refine L.nil (E.thenN (W.seq (W.region (L.y rfl (Y.move rfl) ?_))))
  obtain ⟨l3, el3, h⟩ := bind1S h
  refine L.makeE (row := B) (z0 := false) el3 rfl Try.underlying49 eL4 ze4 rfl rfl rfl ?_
  intro b4
  refine L.alloc rfl ze49 ?_
  intro b5
  refine L.storeV (i := 0) sz49 rfl rfl (fun _ hw => (As.at_ (hw.get (i := 1) rfl)).one) rfl (Nat.le_of_ble_eq_true rfl) ?_
  refine L.nil (E.thenN (W.seqJ (fun gs D => ∃ (gl1 : (List Bool)), gs = [(1, pt b1 0), (3, .int .i64 x2), (4, pt b5 0)] ∧ D = Cls w [] [.obj b5 [(sv b4 x2.toNat)] 49, .obj b1 [.int .i64 a0.Order, u0_0] 24, .sl (sv b4 x2.toNat) 4 1 (gl1.map B)] ∧ m10_quirref_BuddyFree_K1 x2 a0 gl1 = some r) ?_ ?_))
  ·
   refine W.seq (W.region (L.y rfl (Y.fieldP fd24_1 rfl) ?_))
   refine L.y rfl (Y.loadP (i := 2) ag22 rfl rfl rfl) ?_
   refine L.y rfl (Y.lenM (g := TBlock.row) (l := a0.Taken) Try.underlying22 rfl (fun w' hw => hA0_0.cls0 hw)) ?_
   refine L.y rfl (Y.move rfl) ?_
   refine L.nil (E.thenN (W.block (W.loopJ (fun m gs D => ∃ (gx10 : Int) (gl11 : (List Bool)), gs = [(1, pt b1 0), (3, .int .i64 x2), (4, pt b5 0), (18, u0_0), (19, .int .i64 (a0.Taken.length : Int)), (20, .int .i64 gx10)] ∧ D = Cls w [] [.obj b5 [(sv b4 x2.toNat)] 49, .obj b1 [.int .i64 a0.Order, u0_0] 24, .sl (sv b4 x2.toNat) 4 1 (gl11.map B)] ∧ m10_quirref_BuddyFree_L3 a0 x2 m gx10 gl11 = some r) ⟨0, l3, rfl, rfl, h⟩ ⟨rfl, rfl, rfl, rfl, rfl, rfl, trivial⟩ (fun _ hw => hw.sel [0, 2, 1] (by decide) rfl) ?_)))
   rintro m _ _ ⟨gx10, gl11, rfl, rfl, h⟩
   rcases m with _ | m
   · rw [m10_quirref_BuddyFree_L3] at h; cases h
   rw [m10_quirref_BuddyFree_L3] at h
   generalize hg3 : m10_quirref_BuddyFree_L3 a0 x2 m = go3 at h
   rw [m10_quirref_BuddyFree_L3B] at h
   refine W.seq (W.region (L.ite h rfl (Y.lss rfl rfl) (fun c27 h => ?_) (fun c27 h => ?_)))
   ·
    refine L.nil (E.thenN (W.seq (W.condT rfl ?_)))
    refine W.skip (E.thenN (W.seqJ (fun gs D => ∃ (gl12 : (List Bool)), gs = [(1, pt b1 0), (3, .int .i64 x2), (4, pt b5 0), (18, u0_0), (19, .int .i64 (a0.Taken.length : Int)), (20, .int .i64 gx10)] ∧ D = Cls w [] [.obj b5 [(sv b4 x2.toNat)] 49, .obj b1 [.int .i64 a0.Order, u0_0] 24, .sl (sv b4 x2.toNat) 4 1 (gl12.map B)] ∧ m10_quirref_BuddyFree_K7 gx10 go3 gl12 = some r) ?_ ?_))
    ·
     refine W.block (W.seq (W.region (L.m (V := fun _ => el u0_0 (gx10.toNat * 2)) h rfl (Y.indexM (g := TBlock.row) (l := a0.Taken) Try.underlying22 sz37 rfl rfl (fun w' hw => hA0_0.cls0 hw)) (fun x29 ex29 h => ?_))))
     refine L.y rfl (Y.loadEN (r := [.int .i64 x29.At, .int .i64 x29.Order]) ag37 sz37 rfl (fun w' hw => hA0_0.cls0 hw) (idx_map ex29) rfl) ?_
     refine L.alloc rfl ze37 ?_
     intro b30
     refine L.store (i := 0) (vs := [.int .i64 x29.At, .int .i64 x29.Order]) sz37 rfl rfl rfl rfl (by simp [Value.oneCell', Value.cells, st, pt]) rfl (Nat.le_of_ble_eq_true rfl) ?_
     refine L.nil (E.thenN (W.seq (W.region (L.y rfl (Y.fieldP fd37_1 rfl) ?_))))
     refine L.y rfl (Y.loadP (i := 0) ag3 rfl rfl rfl) ?_
     refine L.m (V := fun x31 => .int .i64 x31) h rfl (Y.shlM rfl rfl) (fun x31 ex31 h => ?_)
     refine L.y rfl (Y.move rfl) ?_
     refine L.nil (E.thenN (W.block (W.loopJ (fun m gs D => ∃ (gx13 : Int) (gl14 : (List Bool)), gs = [(1, pt b1 0), (3, .int .i64 x2), (4, pt b5 0), (6, pt b30 0), (18, u0_0), (19, .int .i64 (a0.Taken.length : Int)), (20, .int .i64 gx10), (26, .int .i64 x31), (27, .int .i64 gx13)] ∧ D = Cls w [] [.obj b30 [.int .i64 x29.At, .int .i64 x29.Order] 37, .obj b5 [(sv b4 x2.toNat)] 49, .obj b1 [.int .i64 a0.Order, u0_0] 24, .sl (sv b4 x2.toNat) 4 1 (gl14.map B)] ∧ m10_quirref_BuddyFree_L4 x31 x29 gx10 go3 m gx13 gl14 = some r) ⟨0, gl11, rfl, rfl, h⟩ ⟨rfl, rfl, rfl, rfl, rfl, rfl, rfl, rfl, rfl, trivial⟩ (fun _ hw => hw) ?_)))
     rintro m _ _ ⟨gx13, gl14, rfl, rfl, h⟩
     rcases m with _ | m
     · rw [m10_quirref_BuddyFree_L4] at h; cases h
     rw [m10_quirref_BuddyFree_L4] at h
     generalize hg4 : m10_quirref_BuddyFree_L4 x31 x29 gx10 go3 m = go4 at h
     rw [m10_quirref_BuddyFree_L4B] at h
     refine W.seq (W.region (L.ite h rfl (Y.lss rfl rfl) (fun c32 h => ?_) (fun c32 h => ?_)))
     ·
      refine L.nil (E.thenN (W.seq (W.condT rfl ?_)))
      refine W.skip (E.thenN (W.seq (W.block (W.seq (W.region (L.y rfl (Y.move rfl) ?_))))))
      refine L.y rfl (Y.assign rfl) ?_
      refine L.nil (E.thenN (W.region (L.y rfl (Y.loadP (i := 1) ag49 rfl rfl rfl) ?_)))
      refine L.y rfl (Y.fieldP fd37_0 rfl) ?_
      refine L.y rfl (Y.loadP (i := 0) ag3 rfl rfl rfl) ?_
      refine L.y rfl (Y.move rfl) ?_
      refine L.m (V := fun x33 => .int .i64 x33) h rfl (Y.addM rfl rfl) (fun x33 ex33 h => ?_)
      refine L.m (V := fun _ => el (sv b4 x2.toNat) (x33.toNat * 1)) h rfl (Y.indexM (g := B) (l := gl14) Try.underlying49 sz4 rfl rfl (fun w hw => As.at_ (hw.get (i := 3) rfl))) (fun x34 ex34 h => ?_)
      refine L.storeSlM (q := 3) (row := B) (vs := [.bool true]) (j := 0) (u1 := true) h sz4 rfl rfl rfl rfl rfl (all1 rfl all0) rfl ex34 rfl rfl ?_
      intro l35 el35 h
      refine L.nil (E.blockN (E.thenN (W.region (L.m (V := fun x36 => .int .i64 x36) h rfl (Y.addM rfl rfl) (fun x36 ex36 h => ?_)))))
      refine L.y rfl (Y.move rfl) ?_
      exact L.nil (E.againJ ⟨x36, l35, rfl, rfl, by rw [hg4]; exact h⟩ (Nat.lt_succ_self _) ⟨rfl, rfl, rfl, rfl, rfl, rfl, rfl, rfl, rfl, trivial⟩ (fun _ hw => hw))
     ·
      refine L.nil (E.thenN (W.seq (W.condF rfl ?_)))
      exact W.exit (E.thenX (E.KLX (E.blockX (E.blockN (E.joinJ ⟨gl14, rfl, rfl, h⟩ ⟨rfl, rfl, rfl, rfl, rfl, rfl, trivial⟩ (fun _ hw => hw.sel [1, 2, 3] (by decide) rfl))))))
    ·
     rintro _ _ ⟨gl12, rfl, rfl, h⟩
     rw [m10_quirref_BuddyFree_K7] at h
     refine W.region (L.m (V := fun x28 => .int .i64 x28) h rfl (Y.addM rfl rfl) (fun x28 ex28 h => ?_))
     refine L.y rfl (Y.move rfl) ?_
     exact L.nil (E.againJ ⟨x28, gl12, rfl, rfl, by rw [hg3]; exact h⟩ (Nat.lt_succ_self _) ⟨rfl, rfl, rfl, rfl, rfl, rfl, trivial⟩ (fun _ hw => hw))
   ·
    refine L.nil (E.thenN (W.seq (W.condF rfl ?_)))
    exact W.exit (E.thenX (E.KLX (E.blockX (E.joinJ ⟨gl11, rfl, rfl, h⟩ ⟨rfl, rfl, rfl, trivial⟩ (fun _ hw => hw)))))
  ·
   rintro _ _ ⟨gl1, rfl, rfl, h⟩
   rw [m10_quirref_BuddyFree_K1] at h
   refine W.seq (W.region (L.y rfl (Y.func rfl) ?_))
   refine L.y rfl (Y.assign rfl) ?_
   refine L.nil (E.thenN (W.seq (W.region (L.y rfl (Y.assign rfl) ?_))))
   refine L.nil (E.thenN (W.seqJ (fun gs D => ∃ (gv2 : Value) (gl3 : (List TBlock)), gs = [(9, gv2)] ∧ D = Cls w [] [.sl gv2 37 2 (gl3.map TBlock.row)] ∧ m10_quirref_BuddyFree_K2 gl3 = some r) ?_ ?_))
   ·
    refine W.seq (W.region (L.y rfl (Y.assign rfl) ?_))
    refine L.nil (E.thenN (W.block (W.nilSl 37 2 ?_)))
    refine W.loopJ (fun m gs D => ∃ (gv4 : Value) (gl5 : (List TBlock)) (gx6 : Int), gs = [(3, .int .i64 x2), (4, pt b5 0), (8, .func (.func 23) #[] #[pt b1 0, pt b5 0]), (9, gv4), (10, .int .i64 gx6)] ∧ D = Cls w [] [.obj b5 [(sv b4 x2.toNat)] 49, .obj b1 [.int .i64 a0.Order, u0_0] 24, .sl gv4 37 2 (gl5.map TBlock.row), .sl (sv b4 x2.toNat) 4 1 (gl1.map B)] ∧ m10_quirref_BuddyFree_L1 x2 gl1 a0 m gl5 gx6 = some r) ⟨.slice none 0 0, [], 0, rfl, rfl, h⟩ ⟨rfl, rfl, rfl, rfl, rfl, trivial⟩ (fun _ hw => hw.sel [1, 2, 0, 3] (by decide) rfl) ?_
    rintro m _ _ ⟨gv4, gl5, gx6, rfl, rfl, h⟩
    rcases m with _ | m
    · rw [m10_quirref_BuddyFree_L1] at h; cases h
    rw [m10_quirref_BuddyFree_L1] at h
    generalize hg1 : m10_quirref_BuddyFree_L1 x2 gl1 a0 m = go1 at h
    rw [m10_quirref_BuddyFree_L1B] at h
    refine W.seqJ (fun gs D => gs = [(3, .int .i64 x2), (4, pt b5 0), (8, .func (.func 23) #[] #[pt b1 0, pt b5 0]), (9, gv4), (10, .int .i64 gx6)] ∧ D = Cls w [] [.obj b5 [(sv b4 x2.toNat)] 49, .obj b1 [.int .i64 a0.Order, u0_0] 24, .sl gv4 37 2 (gl5.map TBlock.row), .sl (sv b4 x2.toNat) 4 1 (gl1.map B)] ∧ m10_quirref_BuddyFree_K3 gl1 gx6 go1 gl5 a0 = some r) ?_ ?_
    ·
     refine W.seq (W.region (L.y rfl (Y.move rfl) ?_))
     refine L.y rfl (Y.move rfl) ?_
     refine L.ite h rfl (Y.lss rfl rfl) (fun c26 h => ?_) (fun c26 h => ?_)
     ·
      refine L.nil (E.thenN (W.condT rfl ?_))
      exact W.skip (E.joinJ ⟨rfl, rfl, h⟩ ⟨rfl, rfl, rfl, rfl, rfl, trivial⟩ (fun _ hw => hw))
     ·
      refine L.nil (E.thenN (W.condF rfl ?_))
      exact W.exit (E.KSX (E.KLX (E.blockX (E.joinJ ⟨gv4, gl5, rfl, rfl, h⟩ ⟨rfl, trivial⟩ (fun _ hw => hw.sel [2] (by decide) rfl)))))
    ·
     rintro _ _ ⟨rfl, rfl, h⟩
     rw [m10_quirref_BuddyFree_K3] at h
     refine W.block (W.seqJ (fun gs D => gs = [(3, .int .i64 x2), (4, pt b5 0), (8, .func (.func 23) #[] #[pt b1 0, pt b5 0]), (9, gv4), (10, .int .i64 gx6)] ∧ D = Cls w [] [.obj b5 [(sv b4 x2.toNat)] 49, .obj b1 [.int .i64 a0.Order, u0_0] 24, .sl gv4 37 2 (gl5.map TBlock.row), .sl (sv b4 x2.toNat) 4 1 (gl1.map B)] ∧ m10_quirref_BuddyFree_K4 a0 gx6 gl1 gl5 go1 = some r) ?_ ?_)
     ·
      refine W.seq (W.region (L.y rfl (Y.loadP (i := 0) ag49 rfl rfl rfl) ?_))
      refine L.y rfl (Y.move rfl) ?_
      refine L.m (V := fun _ => el (sv b4 x2.toNat) (gx6.toNat * 1)) h rfl (Y.indexM (g := B) (l := gl1) Try.underlying49 sz4 rfl rfl (fun w hw => As.at_ (hw.get (i := 3) rfl))) (fun x23 ex23 h => ?_)
      refine L.iteB h rfl (Y.loadE1 (u := .bool x23) ag4 rfl (fun w hw => As.at_ (hw.get (i := 3) rfl)) (idx_map ex23)) (fun c24 h => ?_) (fun c24 h => ?_)
      ·
       refine L.nil (E.thenN (W.condT rfl ?_))
       refine W.seq (W.region (L.y rfl (Y.move rfl) ?_))
       refine L.m (V := fun x25 => .int .i64 x25) h rfl (Y.addM rfl rfl) (fun x25 ex25 h => ?_)
       refine L.y rfl (Y.assign rfl) ?_
       exact L.nil (E.thenN (W.exit (E.KSX (E.blockX (E.againJ ⟨gv4, gl5, x25, rfl, rfl, by rw [hg1]; exact h⟩ (Nat.lt_succ_self _) ⟨rfl, rfl, rfl, rfl, rfl, trivial⟩ (fun _ hw => hw))))))
      ·
       refine L.nil (E.thenN (W.condF rfl ?_))
       exact W.skip (E.joinJ ⟨rfl, rfl, h⟩ ⟨rfl, rfl, rfl, rfl, rfl, trivial⟩ (fun _ hw => hw))
     ·
      rintro _ _ ⟨rfl, rfl, h⟩
      rw [m10_quirref_BuddyFree_K4] at h
      refine W.seq (W.region (L.y rfl (Y.assign rfl) ?_))
      refine L.nil (E.thenN (W.seqJ (fun gs D => ∃ (gx7 : Int), gs = [(3, .int .i64 x2), (4, pt b5 0), (8, .func (.func 23) #[] #[pt b1 0, pt b5 0]), (9, gv4), (10, .int .i64 gx6), (11, .int .i64 gx7)] ∧ D = Cls w [] [.obj b5 [(sv b4 x2.toNat)] 49, .obj b1 [.int .i64 a0.Order, u0_0] 24, .sl gv4 37 2 (gl5.map TBlock.row), .sl (sv b4 x2.toNat) 4 1 (gl1.map B)] ∧ m10_quirref_BuddyFree_K5 gl5 gx6 go1 gx7 = some r) ?_ ?_))
      ·
       refine W.block (W.loopJ (fun m gs D => ∃ (gx8 : Int), gs = [(3, .int .i64 x2), (4, pt b5 0), (8, .func (.func 23) #[] #[pt b1 0, pt b5 0]), (9, gv4), (10, .int .i64 gx6), (11, .int .i64 gx8)] ∧ D = Cls w [] [.obj b5 [(sv b4 x2.toNat)] 49, .obj b1 [.int .i64 a0.Order, u0_0] 24, .sl gv4 37 2 (gl5.map TBlock.row), .sl (sv b4 x2.toNat) 4 1 (gl1.map B)] ∧ m10_quirref_BuddyFree_L2 a0 gx6 gl1 gl5 go1 m gx8 = some r) ⟨0, rfl, rfl, h⟩ ⟨rfl, rfl, rfl, rfl, rfl, rfl, trivial⟩ (fun _ hw => hw) ?_)
       rintro m _ _ ⟨gx8, rfl, rfl, h⟩
       rcases m with _ | m
       · rw [m10_quirref_BuddyFree_L2] at h; cases h
       rw [m10_quirref_BuddyFree_L2] at h
       generalize hg2 : m10_quirref_BuddyFree_L2 a0 gx6 gl1 gl5 go1 m = go2 at h
       rw [m10_quirref_BuddyFree_L2B] at h
       refine W.seq (W.seq (W.region (L.y rfl (Y.move rfl) ?_)))
       refine L.y rfl (Y.move rfl) ?_
       refine L.y rfl (Y.move rfl) ?_
       refine L.m (V := fun x11 => .int .i64 x11) h rfl (Y.addM rfl rfl) (fun x11 ex11 h => ?_)
       refine L.callVJ (fun v D => ∃ (gb9 : Bool), v = .bool gb9 ∧ D = Cls w [] [.obj b5 [(sv b4 x2.toNat)] 49, .obj b1 [.int .i64 a0.Order, u0_0] 24, .sl gv4 37 2 (gl5.map TBlock.row), .sl (sv b4 x2.toNat) 4 1 (gl1.map B)] ∧ m10_quirref_BuddyFree_K6 gx8 go2 gl5 gx6 go1 gb9 = some r) rfl en23 rfl rfl Try.func23 rfl rfl rfl ?_ ?_
       ·
        refine W.seq (W.region (L.y rfl (Y.assign rfl) ?_))
        refine L.nil (E.thenN (W.seq (W.quietC mixed (by kernel_rfl) (fun _ hw => hw.drew) (fun hC => ?_))))
        refine U.y rfl (Y.move rfl) ?_
        refine U.y rfl (Y.fieldP fd24_0 rfl) ?_
        refine U.y rfl (Y.loadP (i := 1) ag3 rfl rfl rfl) ?_
        refine U.ite h rfl (Y.leq rfl rfl) (fun c13 h => ?_) (fun c13 h => ?_)
        ·
         refine U.y rfl (Y.move rfl) ?_
         refine U.take rfl (U.y rfl (Y.loadP (i := 0) ag49 rfl rfl rfl) ?_)
         refine U.take rfl (U.y rfl (Y.move rfl) ?_)
         refine U.take rfl (U.y rfl (Y.move rfl) ?_)
         refine U.take rfl (U.m (V := fun x14 => .int .i64 x14) h rfl (Y.shrM rfl rfl) (fun x14 ex14 h => ?_))
         refine U.take rfl (U.y rfl (Y.move rfl) ?_)
         refine U.take rfl (U.m (V := fun x15 => .int .i64 x15) h rfl (Y.shlM rfl rfl) (fun x15 ex15 h => ?_))
         refine U.take rfl (U.y rfl (Y.move rfl) ?_)
         refine U.take rfl (U.y rfl (Y.move rfl) ?_)
         refine U.take rfl (U.m (V := fun x16 => .int .i64 x16) h rfl (Y.shrM rfl rfl) (fun x16 ex16 h => ?_))
         refine U.take rfl (U.y rfl (Y.move rfl) ?_)
         refine U.take rfl (U.m (V := fun x17 => .int .i64 x17) h rfl (Y.shlM rfl rfl) (fun x17 ex17 h => ?_))
         refine U.take rfl (U.y rfl (Y.move rfl) ?_)
         refine U.take rfl (U.m (V := fun x18 => .int .i64 x18) h rfl (Y.shlM rfl rfl) (fun x18 ex18 h => ?_))
         refine U.take rfl (U.m (V := fun x19 => .int .i64 x19) h rfl (Y.addM rfl rfl) (fun x19 ex19 h => ?_))
         refine U.take rfl (U.m (V := fun _ => dropv (cutv (sv b4 x2.toNat) x19.toNat) x15.toNat 1) h rfl (Y.midM (g := B) Try.underlying49 sz4 rfl rfl rfl (fun w hw => As.at_ (hw.get (i := 3) rfl))) (fun l20 el20 h => ?_))
         refine U.take rfl ?_
         obtain ⟨b21, e22, h⟩ := bind1S h
         refine U.y rfl (Y.does en24 rfl (fun w' hw => (w24_slices_Contains_bool l20 true (dropv (cutv (sv b4 x2.toNat) x19.toNat) x15.toNat 1) w' _ e22 ((At.midM (As.at_ (hw.get (i := 3) rfl)) el20))).mono (fun _ _ h => h.1))) ?_
         refine U.take rfl (U.y rfl (Y.not rfl) ?_)
         refine U.y rfl (Y.pickT rfl rfl) ?_
         refine U.y rfl (Y.assign rfl) ?_
         refine U.nil (E.thenN (W.ret (E.ret1 rfl rfl (fun w1 hw => ?_))))
         exact ⟨_, _, rfl, ⟨(!b21), rfl, rfl, h⟩, hw⟩
        ·
         refine U.y rfl (Y.move rfl) ?_
         refine U.pass rfl rfl (by nofun) ?_
         refine U.pass rfl rfl (by nofun) ?_
         refine U.pass rfl rfl (by nofun) ?_
         refine U.pass rfl rfl (by nofun) ?_
         refine U.pass rfl rfl (by nofun) ?_
         refine U.pass rfl rfl (by nofun) ?_
         refine U.pass rfl rfl (by nofun) ?_
         refine U.pass rfl rfl (by nofun) ?_
         refine U.pass rfl rfl (by nofun) ?_
         refine U.pass rfl rfl (by nofun) ?_
         refine U.pass rfl rfl (by nofun) ?_
         refine U.pass rfl rfl (by nofun) ?_
         refine U.pass rfl rfl (by nofun) ?_
         refine U.pass rfl rfl (by nofun) ?_
         refine U.pass rfl rfl (by nofun) ?_
         refine U.pass rfl rfl (by nofun) ?_
         refine U.pass rfl rfl (by nofun) ?_
         refine U.y rfl (Y.pickF rfl rfl) ?_
         refine U.y rfl (Y.assign rfl) ?_
         refine U.nil (E.thenN (W.ret (E.ret1 rfl rfl (fun w1 hw => ?_))))
         exact ⟨_, _, rfl, ⟨false, rfl, rfl, h⟩, hw⟩
       ·
        rintro _ _ ⟨gb9, rfl, rfl, h⟩
        rw [m10_quirref_BuddyFree_K6] at h
        rcases gb9 with _ | _
        ·
         replace h := iteF h
         refine L.nil (E.thenN (W.condF rfl ?_))
         exact W.exit (E.thenX (E.KLX (E.blockX (E.joinJ ⟨gx8, rfl, rfl, h⟩ ⟨rfl, rfl, rfl, rfl, rfl, rfl, trivial⟩ (fun _ hw => hw)))))
        ·
         replace h := iteT h
         refine L.nil (E.thenN (W.condT rfl ?_))
         refine W.skip (E.thenN (W.block (W.region (L.y rfl (Y.move rfl) ?_))))
         refine L.m (V := fun x12 => .int .i64 x12) h rfl (Y.addM rfl rfl) (fun x12 ex12 h => ?_)
         refine L.y rfl (Y.assign rfl) ?_
         exact L.nil (E.blockN (E.againJ ⟨x12, rfl, rfl, by rw [hg2]; exact h⟩ (Nat.lt_succ_self _) ⟨rfl, rfl, rfl, rfl, rfl, rfl, trivial⟩ (fun _ hw => hw)))
      ·
       rintro _ _ ⟨gx7, rfl, rfl, h⟩
       rw [m10_quirref_BuddyFree_K5] at h
       refine W.seq (W.region (L.y rfl (Y.move rfl) ?_))
       refine L.y rfl (Y.move rfl) ?_
       refine L.y rfl (Y.move rfl) ?_
       refine L.y rfl (Y.build (cells := #[.int .i64 gx6, .int .i64 gx7]) rfl (by kernel_rfl)) ?_
       refine L.litAgg rfl Try.underlying22 eL37 rfl rfl rfl ?_
       intro b6
       refine L.appM (i := 3) (g := TBlock.row) (l := gl5) (more := [(⟨gx6, gx7⟩ : TBlock)]) h rfl Try.underlying22 eL37 rfl rfl rfl (fun w hw => As.at_ (hw.get (i := 0) rfl)) (plain_TBlock _) rfl ?_
       intro v7 l8 el8 h
       refine L.y rfl (Y.assign rfl) ?_
       refine L.nil (E.thenN (W.region (L.y rfl (Y.move rfl) ?_)))
       refine L.y rfl (Y.move rfl) ?_
       refine L.m (V := fun x9 => .int .i64 x9) h rfl (Y.shlM rfl rfl) (fun x9 ex9 h => ?_)
       refine L.m (V := fun x10 => .int .i64 x10) h rfl (Y.addM rfl rfl) (fun x10 ex10 h => ?_)
       refine L.y rfl (Y.assign rfl) ?_
       exact L.nil (E.blockN (E.againJ ⟨v7, l8, x10, rfl, rfl, by rw [hg1]; exact h⟩ (Nat.lt_succ_self _) ⟨rfl, rfl, rfl, rfl, rfl, trivial⟩ (fun _ hw => hw.sel [2, 3, 0, 4] (by decide) rfl)))
   ·
    rintro _ _ ⟨gv2, gl3, rfl, rfl, h⟩
    rw [m10_quirref_BuddyFree_K2] at h
    refine W.seq (W.region (L.y rfl (Y.move rfl) ?_))
    refine L.y rfl (Y.assign rfl) ?_
    refine L.nil (E.thenN (W.ret (E.ret1 rfl rfl (fun w1 hw => ?_))))
    obtain rfl := Option.some.inj h
    exact ⟨_, _, rfl, ⟨_, rfl, rfl⟩, hw⟩
set_option maxRecDepth 100000 in
set_option maxHeartbeats 8000000 in
theorem w14_api_Block (a0 : (List (List TBlock))) (u0 : Value) (q0 : Nat → List Value) (w : World) (r : (List TBlock)) (h : m14_api_Block a0 = some r) (hA0 : At w u0 1 (zr svRow q0 a0)) (hD0 : ∀ d ∈ zs (svSd 37 2 TBlock.row) q0 a0, At w d.v d.k d.rows) : Does Try.prog 14 [u0] w fun u m => ∃ v0, u = v0 ∧ m = [.sl v0 37 2 (r.map TBlock.row)] := by
  rw [m14_api_Block] at h
  refine body (n := 36) Try.func14 rfl rfl rfl (Cls.refl w) ?_
  refine W.seq (W.region (L.y rfl (Y.assign rfl) ?_))
  refine L.nil (E.thenN (W.seq (W.region (L.y rfl (Y.assign rfl) ?_))))
  refine L.nil (E.thenN (W.seqJ (fun gs D => ∃ (gx1 : Int), gs = [(0, u0), (3, .int .i64 gx1)] ∧ D = Cls w [] [] ∧ m14_api_Block_K1 a0 gx1 = some r) ?_ ?_))
  ·
   refine W.seq (W.region (L.y rfl (Y.move rfl) ?_))
   refine L.y rfl (Y.lenMZ (row := svRow) (vs := q0) (l := a0) Try.underlying52 rfl (fun w' hw => hA0.cls0 hw)) ?_
   refine L.y rfl (Y.move rfl) ?_
   refine L.nil (E.thenN (W.block (W.loopJ (fun m gs D => ∃ (gx9 : Int) (gx10 : Int), gs = [(0, u0), (3, .int .i64 gx9), (9, u0), (10, .int .i64 (a0.length : Int)), (11, .int .i64 gx10)] ∧ D = Cls w [] [] ∧ m14_api_Block_L2 a0 m gx9 gx10 = some r) ⟨0, 0, rfl, rfl, h⟩ ⟨rfl, rfl, rfl, rfl, rfl, trivial⟩ (fun _ hw => hw) ?_)))
   rintro m _ _ ⟨gx9, gx10, rfl, rfl, h⟩
   rcases m with _ | m
   · rw [m14_api_Block_L2] at h; cases h
   rw [m14_api_Block_L2] at h
   generalize hg2 : m14_api_Block_L2 a0 m = go2 at h
   rw [m14_api_Block_L2B] at h
   refine W.seq (W.region (L.ite h rfl (Y.lss rfl rfl) (fun c14 h => ?_) (fun c14 h => ?_)))
   ·
    refine L.nil (E.thenN (W.seq (W.condT rfl ?_)))
    refine W.skip (E.thenN (W.seq (W.block (W.seq (W.region (L.m (V := fun _ => el u0 (gx10.toNat * 1)) h rfl (Y.indexMZ (row := svRow) (vs := q0) (l := a0) Try.underlying52 sz22 rfl rfl (fun w' hw => hA0.cls0 hw)) (fun x15 ex15 h => ?_)))))))
    refine L.y rfl (Y.loadE1 (u := gv (q0 gx10.toNat) 0) ag22 rfl (fun w' hw => hA0.cls0 hw) (zr_idx (vs := q0) ex15)) ?_
    refine L.y rfl (Y.assign rfl) ?_
    refine L.nil (E.thenN (W.seq (W.region (L.y rfl (Y.move rfl) ?_))))
    refine L.y rfl (Y.move rfl) ?_
    refine L.y rfl (Y.lenM (g := TBlock.row) (l := x15) Try.underlying22 rfl (fun w' hw => (zAt (sds := (svSd 37 2 TBlock.row)) (vs := q0) (j := 0) hD0 (fun _ _ => rfl) ex15 rfl).cls0 hw)) ?_
    refine L.m (V := fun x16 => .int .i64 x16) h rfl (Y.addM rfl rfl) (fun x16 ex16 h => ?_)
    refine L.y rfl (Y.assign rfl) ?_
    refine L.nil (E.thenN (W.seq (W.region (L.y rfl (Y.move rfl) ?_))))
    refine L.ite h rfl (Y.lss rfl rfl) (fun c17 h => ?_) (fun c17 h => ?_)
    ·
     refine L.nil (E.thenN (W.condT rfl ?_))
     refine W.region ?_
     cases h
    ·
     refine L.nil (E.thenN (W.condF rfl ?_))
     refine W.skip (E.blockN (E.thenN (W.region (L.m (V := fun x18 => .int .i64 x18) h rfl (Y.addM rfl rfl) (fun x18 ex18 h => ?_)))))
     refine L.y rfl (Y.move rfl) ?_
     exact L.nil (E.againJ ⟨x16, x18, rfl, rfl, by rw [hg2]; exact h⟩ (Nat.lt_succ_self _) ⟨rfl, rfl, rfl, rfl, rfl, trivial⟩ (fun _ hw => hw))
   ·
    refine L.nil (E.thenN (W.seq (W.condF rfl ?_)))
    exact W.exit (E.thenX (E.KLX (E.blockX (E.joinJ ⟨gx9, rfl, rfl, h⟩ ⟨rfl, rfl, trivial⟩ (fun _ hw => hw)))))
  ·
   rintro _ _ ⟨gx1, rfl, rfl, h⟩
   rw [m14_api_Block_K1] at h
   refine W.seq (W.region (L.y rfl (Y.move rfl) ?_))
   refine L.callJ (fun v D => ∃ (gv2 : Value) (gl3 : (List TBlock)), v = gv2 ∧ D = Cls w [] [.sl gv2 37 2 (gl3.map TBlock.row)] ∧ m14_api_Block_K2 a0 gl3 = some r) rfl en25 rfl Try.func25 rfl rfl rfl ?_ ?_
   ·
    refine W.seq (W.region (L.y rfl (Y.assign rfl) ?_))
    refine L.nil (E.thenN (W.seqJ (fun gs D => gs = [(0, .slice none 0 0), (1, .int .i64 gx1)] ∧ D = Cls w [] [] ∧ m14_api_Block_K4 gx1 a0 = some r) ?_ ?_))
    ·
     refine W.seq (W.region (L.y rfl (Y.move rfl) ?_))
     refine L.ite h rfl (Y.lss rfl rfl) (fun c13 h => ?_) (fun c13 h => ?_)
     ·
      refine L.nil (E.thenN (W.condT rfl ?_))
      refine W.region ?_
      cases h
     ·
      refine L.nil (E.thenN (W.condF rfl ?_))
      exact W.skip (E.joinJ ⟨rfl, rfl, h⟩ ⟨rfl, rfl, trivial⟩ (fun _ hw => hw))
    ·
     rintro _ _ ⟨rfl, rfl, h⟩
     rw [m14_api_Block_K4] at h
     refine W.seq (W.seq (W.region (L.y rfl (Y.move rfl) ?_)))
     refine L.y rfl (Y.move rfl) ?_
     refine L.y rfl (Y.capNil Try.underlying22 rfl) ?_
     refine L.y rfl (Y.move rfl) ?_
     refine L.y rfl (Y.lenNil Try.underlying22 rfl) ?_
     refine L.m (V := fun x6 => .int .i64 x6) h rfl (Y.subM rfl rfl) (fun x6 ex6 h => ?_)
     refine L.m (V := fun x7 => .int .i64 x7) h rfl (Y.subM rfl rfl) (fun x7 ex7 h => ?_)
     refine L.y rfl (Y.assign rfl) ?_
     refine L.nil (E.thenN (W.seq (W.region (L.y rfl (Y.move rfl) ?_))))
     refine L.ite h rfl (Y.gtr rfl rfl) (fun c8 h => ?_) (fun c8 h => ?_)
     ·
      refine L.nil (E.thenN (W.condT rfl ?_))
      refine W.region (L.y rfl (Y.move rfl) ?_)
      refine L.y rfl (Y.move rfl) ?_
      refine L.y rfl (Y.capNil Try.underlying22 rfl) ?_
      refine L.y rfl (Y.cutNil Try.underlying22 sz37 rfl rfl) ?_
      refine L.y rfl (Y.move rfl) ?_
      obtain ⟨l9, el9, h⟩ := bind1S h
      refine L.nilZerosM (row := TBlock.row) (z0 := (⟨0, 0⟩ : TBlock)) el9 (by omega) rfl Try.underlying22 Try.underlying3 eL37 ze37 rfl rfl rfl (fun v10 => ?_)
      refine L.y rfl (Y.move rfl) ?_
      refine L.y rfl (Y.lenNil Try.underlying22 rfl) ?_
      obtain ⟨l11, el11, h⟩ := bind1S h
      refine L.cutM (i := 0) (g := TBlock.row) el11 rfl Try.underlying22 sz37 rfl rfl rfl (fun v12 => ?_)
      refine L.y rfl (Y.assign rfl) ?_
      refine L.nil (E.thenN (W.seq (W.region (L.y rfl (Y.move rfl) ?_))))
      refine L.y rfl (Y.assign rfl) ?_
      refine L.nil (E.thenN (W.ret (E.ret1 rfl rfl (fun w1 hw => ?_))))
      exact ⟨_, _, rfl, ⟨v12, l11, rfl, rfl, h⟩, hw⟩
     ·
      refine L.nil (E.thenN (W.condF rfl ?_))
      refine W.skip (E.thenN (W.seq (W.region (L.y rfl (Y.move rfl) ?_))))
      refine L.y rfl (Y.assign rfl) ?_
      refine L.nil (E.thenN (W.ret (E.nilSl 37 2 ?_)))
      refine E.ret1 rfl rfl (fun w1 hw => ?_)
      exact ⟨_, _, rfl, ⟨.slice none 0 0, [], rfl, rfl, h⟩, hw⟩
   ·
    rintro gv2 _ ⟨_, gl3, rfl, rfl, h⟩
    rw [m14_api_Block_K2] at h
    refine L.y rfl (Y.assign rfl) ?_
    refine L.nil (E.thenN (W.seqJ (fun gs D => ∃ (gv4 : Value) (gl5 : (List TBlock)), gs = [(6, gv4)] ∧ D = Cls w [] [.sl gv4 37 2 (gl5.map TBlock.row)] ∧ m14_api_Block_K3 gl5 = some r) ?_ ?_))
    ·
     refine W.seq (W.region (L.y rfl (Y.move rfl) ?_))
     refine L.y rfl (Y.lenMZ (row := svRow) (vs := q0) (l := a0) Try.underlying52 rfl (fun w' hw => hA0.cls0 hw)) ?_
     refine L.y rfl (Y.move rfl) ?_
     refine L.nil (E.thenN (W.block (W.loopJ (fun m gs D => ∃ (gv6 : Value) (gl7 : (List TBlock)) (gx8 : Int), gs = [(6, gv6), (25, u0), (26, .int .i64 (a0.length : Int)), (27, .int .i64 gx8)] ∧ D = Cls w [] [.sl gv6 37 2 (gl7.map TBlock.row)] ∧ m14_api_Block_L1 a0 m gl7 gx8 = some r) ⟨gv2, gl3, 0, rfl, rfl, h⟩ ⟨rfl, rfl, rfl, rfl, trivial⟩ (fun _ hw => hw) ?_)))
     rintro m _ _ ⟨gv6, gl7, gx8, rfl, rfl, h⟩
     rcases m with _ | m
     · rw [m14_api_Block_L1] at h; cases h
     rw [m14_api_Block_L1] at h
     generalize hg1 : m14_api_Block_L1 a0 m = go1 at h
     rw [m14_api_Block_L1B] at h
     refine W.seq (W.region (L.ite h rfl (Y.lss rfl rfl) (fun c1 h => ?_) (fun c1 h => ?_)))
     ·
      refine L.nil (E.thenN (W.seq (W.condT rfl ?_)))
      refine W.skip (E.thenN (W.seq (W.block (W.seq (W.region (L.m (V := fun _ => el u0 (gx8.toNat * 1)) h rfl (Y.indexMZ (row := svRow) (vs := q0) (l := a0) Try.underlying52 sz22 rfl rfl (fun w' hw => hA0.cls0 hw)) (fun x2 ex2 h => ?_)))))))
      refine L.y rfl (Y.loadE1 (u := gv (q0 gx8.toNat) 0) ag22 rfl (fun w' hw => hA0.cls0 hw) (zr_idx (vs := q0) ex2)) ?_
      refine L.y rfl (Y.assign rfl) ?_
      refine L.nil (E.thenN (W.region (L.y rfl (Y.move rfl) ?_)))
      refine L.y rfl (Y.move rfl) ?_
      refine L.appM (i := 0) (g := TBlock.row) (l := gl7) (more := x2) h rfl Try.underlying22 eL37 rfl rfl rfl (fun w' hw => (zAt (sds := (svSd 37 2 TBlock.row)) (vs := q0) (j := 0) hD0 (fun _ _ => rfl) ex2 rfl).cls0 hw) (plain_TBlock _) rfl ?_
      intro v3 l4 el4 h
      refine L.y rfl (Y.assign rfl) ?_
      refine L.nil (E.blockN (E.thenN (W.region (L.m (V := fun x5 => .int .i64 x5) h rfl (Y.addM rfl rfl) (fun x5 ex5 h => ?_)))))
      refine L.y rfl (Y.move rfl) ?_
      exact L.nil (E.againJ ⟨v3, l4, x5, rfl, rfl, by rw [hg1]; exact h⟩ (Nat.lt_succ_self _) ⟨rfl, rfl, rfl, rfl, trivial⟩ (fun _ hw => hw))
     ·
      refine L.nil (E.thenN (W.seq (W.condF rfl ?_)))
      exact W.exit (E.thenX (E.KLX (E.blockX (E.joinJ ⟨gv6, gl7, rfl, rfl, h⟩ ⟨rfl, trivial⟩ (fun _ hw => hw)))))
    ·
     rintro _ _ ⟨gv4, gl5, rfl, rfl, h⟩
     rw [m14_api_Block_K3] at h
     refine W.seq (W.region (L.y rfl (Y.move rfl) ?_))
     refine L.y rfl (Y.assign rfl) ?_
     refine L.nil (E.thenN (W.ret (E.ret1 rfl rfl (fun w1 hw => ?_))))
     obtain rfl := Option.some.inj h
     exact ⟨_, _, rfl, ⟨_, rfl, rfl⟩, hw⟩
end Go.Proofs.Ytanpiecpmmcaeaa
