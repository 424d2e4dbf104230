/-
  Walks, printed by a program of mine.
  Conditions: none.
-/
import Derived.Test.YtglbgeamiobldaaRlM
import Derived.Test.YtglbgeamiobldaaChecked
import Derived.KernelRfl
import Derived.Test.YtglbgeamiobldaaRlO
namespace Go.Proofs.Ytglbgeamiobldaa
open Go.S
set_option linter.unusedVariables false
set_option linter.unusedSimpArgs false
theorem mixed : Try.prog.follows .mixedOrders = true := by kernel_rfl
theorem ag3 : aggB Try.prog 3 false = true := by kernel_rfl
theorem ag4 : aggB Try.prog 4 false = true := by kernel_rfl
theorem ag22 : aggB Try.prog 22 false = true := by kernel_rfl
theorem ag30 : aggB Try.prog 30 true = true := by kernel_rfl
theorem ag37 : aggB Try.prog 37 true = true := by kernel_rfl
theorem ag41 : aggB Try.prog 41 true = true := by kernel_rfl
theorem ag42 : aggB Try.prog 42 true = true := by kernel_rfl
theorem ag53 : aggB Try.prog 53 true = true := by kernel_rfl
theorem ag57 : aggB Try.prog 57 true = true := by kernel_rfl
theorem ag62 : aggB Try.prog 62 false = true := by kernel_rfl
theorem ag66 : aggB Try.prog 66 false = true := by kernel_rfl
theorem eL3 : elemB Try.prog 3 1 8 = true := by kernel_rfl
theorem eL30 : elemB Try.prog 30 3 24 = true := by kernel_rfl
theorem eL37 : elemB Try.prog 37 4 32 = true := by kernel_rfl
theorem eL41 : elemB Try.prog 41 2 16 = true := by kernel_rfl
theorem eL53 : elemB Try.prog 53 2 16 = true := by kernel_rfl
theorem en4 : entB Try.prog 4 = true := by kernel_rfl
theorem en5 : entB Try.prog 5 = true := by kernel_rfl
theorem en6 : entB Try.prog 6 = true := by kernel_rfl
theorem en7 : entB Try.prog 7 = true := by kernel_rfl
theorem en8 : entB Try.prog 8 = true := by kernel_rfl
theorem en9 : entB Try.prog 9 = true := by kernel_rfl
theorem en10 : entB Try.prog 10 = true := by kernel_rfl
theorem en11 : entB Try.prog 11 = true := by kernel_rfl
theorem en12 : entB Try.prog 12 = true := by kernel_rfl
theorem en13 : entB Try.prog 13 = true := by kernel_rfl
theorem en14 : entB Try.prog 14 = true := by kernel_rfl
theorem en15 : entB Try.prog 15 = true := by kernel_rfl
theorem en16 : entB Try.prog 16 = true := by kernel_rfl
theorem en17 : entB Try.prog 17 = true := by kernel_rfl
theorem en18 : entB Try.prog 18 = true := by kernel_rfl
theorem en19 : entB Try.prog 19 = true := by kernel_rfl
theorem en20 : entB Try.prog 20 = true := by kernel_rfl
theorem en21 : entB Try.prog 21 = true := by kernel_rfl
theorem en22 : entB Try.prog 22 = true := by kernel_rfl
theorem en23 : entB Try.prog 23 = true := by kernel_rfl
theorem en24 : entB Try.prog 24 = true := by kernel_rfl
theorem en25 : entB Try.prog 25 = true := by kernel_rfl
theorem en26 : entB Try.prog 26 = true := by kernel_rfl
theorem en27 : entB Try.prog 27 = true := by kernel_rfl
theorem en28 : entB Try.prog 28 = true := by kernel_rfl
theorem en29 : entB Try.prog 29 = true := by kernel_rfl
theorem en30 : entB Try.prog 30 = true := by kernel_rfl
theorem en31 : entB Try.prog 31 = true := by kernel_rfl
theorem en32 : entB Try.prog 32 = true := by kernel_rfl
theorem en33 : entB Try.prog 33 = true := by kernel_rfl
theorem en34 : entB Try.prog 34 = true := by kernel_rfl
theorem en35 : entB Try.prog 35 = true := by kernel_rfl
theorem en36 : entB Try.prog 36 = true := by kernel_rfl
theorem en37 : entB Try.prog 37 = true := by kernel_rfl
theorem en40 : entB Try.prog 40 = true := by kernel_rfl
theorem en41 : entB Try.prog 41 = true := by kernel_rfl
theorem en42 : entB Try.prog 42 = true := by kernel_rfl
theorem en43 : entB Try.prog 43 = true := by kernel_rfl
theorem en54 : entB Try.prog 54 = true := by kernel_rfl
theorem en55 : entB Try.prog 55 = true := by kernel_rfl
theorem en56 : entB Try.prog 56 = true := by kernel_rfl
theorem fd30_0 : fieldB Try.prog 30 0 0 = true := by kernel_rfl
theorem fd30_1 : fieldB Try.prog 30 1 1 = true := by kernel_rfl
theorem fd30_2 : fieldB Try.prog 30 2 2 = true := by kernel_rfl
theorem fd37_0 : fieldB Try.prog 37 0 0 = true := by kernel_rfl
theorem fd37_1 : fieldB Try.prog 37 1 1 = true := by kernel_rfl
theorem fd37_2 : fieldB Try.prog 37 2 2 = true := by kernel_rfl
theorem fd37_3 : fieldB Try.prog 37 3 3 = true := by kernel_rfl
theorem fd53_0 : fieldB Try.prog 53 0 0 = true := by kernel_rfl
theorem fd53_1 : fieldB Try.prog 53 1 1 = true := by kernel_rfl
theorem sz3 : szB Try.prog 3 1 = true := by kernel_rfl
theorem sz4 : szB Try.prog 4 1 = true := by kernel_rfl
theorem sz30 : szB Try.prog 30 3 = true := by kernel_rfl
theorem sz37 : szB Try.prog 37 4 = true := by kernel_rfl
theorem sz41 : szB Try.prog 41 2 = true := by kernel_rfl
theorem sz42 : szB Try.prog 42 40 = true := by kernel_rfl
theorem sz53 : szB Try.prog 53 2 = true := by kernel_rfl
theorem sz57 : szB Try.prog 57 20 = true := by kernel_rfl
theorem sz62 : szB Try.prog 62 1 = true := by kernel_rfl
theorem sz66 : szB Try.prog 66 1 = true := by kernel_rfl
theorem ze3 : zeroB Try.prog 3 = some [.int .i64 0] := by kernel_rfl
theorem ze30 : zeroB Try.prog 30 = some [.int .i64 0, .int .i64 0, .int .i64 0] := by kernel_rfl
theorem ze41 : zeroB Try.prog 41 = some [.int .i64 0, .int .i64 0] := by kernel_rfl
theorem ze42 : zeroB Try.prog 42 = some [.int .i64 0, .int .i64 0, .int .i64 0, .int .i64 0, .int .i64 0, .int .i64 0, .int .i64 0, .int .i64 0, .int .i64 0, .int .i64 0, .int .i64 0, .int .i64 0, .int .i64 0, .int .i64 0, .int .i64 0, .int .i64 0, .int .i64 0, .int .i64 0, .int .i64 0, .int .i64 0, .int .i64 0, .int .i64 0, .int .i64 0, .int .i64 0, .int .i64 0, .int .i64 0, .int .i64 0, .int .i64 0, .int .i64 0, .int .i64 0, .int .i64 0, .int .i64 0, .int .i64 0, .int .i64 0, .int .i64 0, .int .i64 0, .int .i64 0, .int .i64 0, .int .i64 0, .int .i64 0] := by kernel_rfl
theorem ze53 : zeroB Try.prog 53 = some [.int .i64 0, .int .i64 0] := by kernel_rfl
theorem ze57 : zeroB Try.prog 57 = some (List.replicate 20 (.int .i64 0)) := by kernel_rfl
theorem ze59 : zeroB Try.prog 59 = some (List.replicate 12 (.bool false)) := by kernel_rfl
theorem ze61 : zeroB Try.prog 61 = some (List.replicate 12 (.int .i64 0)) := by kernel_rfl
theorem ze66 : zeroB Try.prog 66 = some [.slice none 0 0] := by kernel_rfl
theorem ze78 : zeroB Try.prog 78 = some (List.replicate 20 (.slice none 0 0)) := by kernel_rfl
theorem plain_TOp (l : List TOp) : Plain (l.map TOp.row) := by
  intro r hr u hu
  obtain ⟨x, _, rfl⟩ := List.mem_map.1 hr
  simp only [TOp.row, List.mem_cons, List.not_mem_nil, or_false] at hu
  rcases hu with rfl | rfl | rfl <;> rfl
theorem plain_Tpair (l : List Tpair) : Plain (l.map Tpair.row) := by
  intro r hr u hu
  obtain ⟨x, _, rfl⟩ := List.mem_map.1 hr
  simp only [Tpair.row, List.mem_cons, List.not_mem_nil, or_false] at hu
  rcases hu with rfl | rfl | rfl | rfl <;> rfl
theorem plain_Tname (l : List Tname) : Plain (l.map Tname.row) := by
  intro r hr u hu
  obtain ⟨x, _, rfl⟩ := List.mem_map.1 hr
  simp only [Tname.row, List.mem_cons, List.not_mem_nil, or_false] at hu
  rcases hu with rfl | rfl <;> rfl
theorem plain_TSeen (l : List TSeen) : Plain (l.map TSeen.row) := by
  intro r hr u hu
  obtain ⟨x, _, rfl⟩ := List.mem_map.1 hr
  simp only [TSeen.row, List.mem_cons, List.not_mem_nil, or_false] at hu
  rcases hu with rfl | rfl <;> rfl
theorem eg30 : Try.prog.eqGuardType Try.prog.depth 30 = false := by kernel_rfl
theorem sh30 (x : TOp) : shB Try.prog 5 30 x.row = true := by kernel_rfl
theorem inj30 (x y : TOp) (h : x.row = y.row) : x = y := by
  cases x; cases y
  simpa [TOp.row, st_inj] using h
theorem eg37 : Try.prog.eqGuardType Try.prog.depth 37 = false := by kernel_rfl
theorem sh37 (x : Tpair) : shB Try.prog 5 37 x.row = true := by kernel_rfl
theorem inj37 (x y : Tpair) (h : x.row = y.row) : x = y := by
  cases x; cases y
  simpa [Tpair.row, st_inj] using h
theorem eg41 : Try.prog.eqGuardType Try.prog.depth 41 = false := by kernel_rfl
theorem sh41 (x : Tname) : shB Try.prog 5 41 x.row = true := by kernel_rfl
theorem inj41 (x y : Tname) (h : x.row = y.row) : x = y := by
  cases x; cases y
  simpa [Tname.row, st_inj] using h
theorem kt41 : KeyT Try.prog 41 Tname.row := {
  un := ⟨_, Try.underlying41⟩
  ag := by kernel_rfl
  sh := sh41
  inj := inj41
  chk := fun x e w => by kernel_rfl
  ints := fun x v hv => by
    simp only [Tname.row, List.mem_cons, List.not_mem_nil, or_false] at hv
    rcases hv with rfl | rfl <;> exact ⟨_, _, rfl⟩ }
theorem egA42 : Try.prog.eqGuardType Try.prog.depth 42 = false := by kernel_rfl
theorem isA42 : (Try.prog.info? 41).isSome = true := by kernel_rfl
theorem hrA42 (z : Tname) : (Tname.row z).length = Try.prog.cellsOf 41 := by kernel_rfl
theorem shA42 (z : Tname) : shB Try.prog 4 41 (Tname.row z) = true := by kernel_rfl
theorem injA42 (x y : Tname) (h : Tname.row x = Tname.row y) : x = y := by
  cases x; cases y
  simpa [Tname.row, st_inj] using h
set_option maxRecDepth 100000 in
set_option maxHeartbeats 8000000 in
theorem w5_quirref_RunErr (a0 : (List TOp)) (u0 : Value) (w : World) (r : Int) (h : m5_quirref_RunErr a0 = some r) (hA0 : At w u0 3 (a0.map TOp.row)) : Does Try.prog 5 [u0] w fun u m => u = .int .i64 r ∧ m = [] := by
  rw [m5_quirref_RunErr] at h
  refine body (n := 73) Try.func5 rfl rfl rfl (Cls.refl w) ?_
  refine W.seq (W.region (L.y rfl (Y.assign rfl) ?_))
  refine L.nil (E.thenN (W.seqJ (fun gs D => gs = [(0, u0)] ∧ D = Cls w [] [] ∧ m5_quirref_RunErr_K1 a0 = some r) ?_ ?_))
  ·
   refine W.seq (W.region (L.y rfl (Y.move rfl) ?_))
   refine L.y rfl (Y.lenM (g := TOp.row) (l := a0) Try.underlying22 rfl (fun w' hw => hA0.cls0 hw)) ?_
   refine L.ite h rfl (Y.gtr rfl rfl) (fun c21 h => ?_) (fun c21 h => ?_)
   ·
    refine L.nil (E.thenN (W.condT rfl ?_))
    refine W.seq (W.region (L.y rfl (Y.assign rfl) ?_))
    refine L.nil (E.thenN (W.ret (E.KSR (E.ret1 rfl rfl (fun w1 hw => ?_)))))
    obtain rfl := Option.some.inj h
    exact ⟨_, _, rfl, ⟨rfl, rfl⟩, hw⟩
   ·
    refine L.nil (E.thenN (W.condF rfl ?_))
    exact W.skip (E.joinJ ⟨rfl, rfl, h⟩ ⟨rfl, trivial⟩ (fun _ hw => hw))
  ·
   rintro _ _ ⟨rfl, rfl, h⟩
   rw [m5_quirref_RunErr_K1] at h
   refine W.seqJ (fun gs D => gs = [] ∧ D = Cls w [] [] ∧ m5_quirref_RunErr_K2 = some r) ?_ ?_
   ·
    refine W.seq (W.region (L.y rfl (Y.move rfl) ?_))
    refine L.y rfl (Y.lenM (g := TOp.row) (l := a0) Try.underlying22 rfl (fun w' hw => hA0.cls0 hw)) ?_
    refine L.y rfl (Y.move rfl) ?_
    refine L.nil (E.thenN (W.block (W.loopJ (fun m gs D => ∃ (gx1 : Int), gs = [(0, u0), (10, u0), (11, .int .i64 (a0.length : Int)), (12, .int .i64 gx1)] ∧ D = Cls w [] [] ∧ m5_quirref_RunErr_L1 a0 m gx1 = some r) ⟨0, rfl, rfl, h⟩ ⟨rfl, rfl, rfl, rfl, trivial⟩ (fun _ hw => hw) ?_)))
    rintro m _ _ ⟨gx1, rfl, rfl, h⟩
    rcases m with _ | m
    · rw [m5_quirref_RunErr_L1] at h; cases h
    rw [m5_quirref_RunErr_L1] at h
    generalize hg1 : m5_quirref_RunErr_L1 a0 m = go1 at h
    rw [m5_quirref_RunErr_L1B] at h
    refine W.seq (W.region (L.ite h rfl (Y.lss rfl rfl) (fun c1 h => ?_) (fun c1 h => ?_)))
    ·
     refine L.nil (E.thenN (W.seq (W.condT rfl ?_)))
     refine W.skip (E.thenN (W.seqJ (fun gs D => gs = [(0, u0), (10, u0), (11, .int .i64 (a0.length : Int)), (12, .int .i64 gx1)] ∧ D = Cls w [] [] ∧ m5_quirref_RunErr_K3 gx1 go1 = some r) ?_ ?_))
     ·
      refine W.block (W.seq (W.region (L.y rfl (Y.move rfl) ?_)))
      refine L.m (V := fun _ => el u0 (gx1.toNat * 3)) h rfl (Y.indexM (g := TOp.row) (l := a0) Try.underlying22 sz30 rfl rfl (fun w' hw => hA0.cls0 hw)) (fun x3 ex3 h => ?_)
      refine L.y rfl (Y.loadEN (r := [.int .i64 x3.Tx, .int .i64 x3.Kind, .int .i64 x3.Item]) ag30 sz30 rfl (fun w' hw => hA0.cls0 hw) (idx_map ex3) rfl) ?_
      refine L.alloc rfl ze30 ?_
      intro b4
      refine L.y rfl (Y.assign rfl) ?_
      refine L.store (i := 0) (vs := [.int .i64 x3.Tx, .int .i64 x3.Kind, .int .i64 x3.Item]) sz30 rfl rfl rfl rfl (by simp [Value.oneCell', Value.cells, st, pt, el]) rfl (Nat.le_of_ble_eq_true rfl) ?_
      refine L.nil (E.thenN (W.seqJ (fun gs D => gs = [(0, u0), (3, .int .i64 gx1), (4, pt b4 0), (10, u0), (11, .int .i64 (a0.length : Int)), (12, .int .i64 gx1)] ∧ D = Cls w [] [.obj b4 [.int .i64 x3.Tx, .int .i64 x3.Kind, .int .i64 x3.Item] 30] ∧ m5_quirref_RunErr_K4 x3 a0 gx1 go1 = some r) ?_ ?_))
      ·
       refine W.seq (W.region (L.cutJ 8 (fun gs D => ∃ (gb5 : Bool), gs = [(0, u0), (3, .int .i64 gx1), (4, pt b4 0), (10, u0), (11, .int .i64 (a0.length : Int)), (12, .int .i64 gx1), (24, .bool gb5)] ∧ D = Cls w [] [.obj b4 [.int .i64 x3.Tx, .int .i64 x3.Kind, .int .i64 x3.Item] 30] ∧ m5_quirref_RunErr_K8 x3 a0 gx1 go1 gb5 = some r) ?_ ?_))
       ·
        refine L.y rfl (Y.fieldP fd30_0 rfl) ?_
        refine L.y rfl (Y.loadP (i := 0) ag3 rfl rfl rfl) ?_
        refine L.ite h rfl (Y.lss rfl rfl) (fun c19 h => ?_) (fun c19 h => ?_)
        ·
         refine L.y rfl (Y.move rfl) ?_
         refine L.pass rfl rfl (by nofun) ?_
         refine L.pass rfl rfl (by nofun) ?_
         refine L.pass rfl rfl (by nofun) ?_
         refine L.y rfl (Y.pickT rfl rfl) ?_
         exact L.nil (E.joinJ ⟨true, rfl, rfl, h⟩ ⟨rfl, rfl, rfl, rfl, rfl, rfl, rfl, trivial⟩ (fun _ hw => hw))
        ·
         refine L.y rfl (Y.move rfl) ?_
         refine L.take rfl (L.y rfl (Y.fieldP fd30_0 rfl) ?_)
         refine L.take rfl (L.y rfl (Y.loadP (i := 0) ag3 rfl rfl rfl) ?_)
         refine L.take rfl (L.ite h rfl (Y.gtr rfl rfl) (fun c20 h => ?_) (fun c20 h => ?_))
         ·
          refine L.y rfl (Y.pickF rfl rfl) ?_
          exact L.nil (E.joinJ ⟨true, rfl, rfl, h⟩ ⟨rfl, rfl, rfl, rfl, rfl, rfl, rfl, trivial⟩ (fun _ hw => hw))
         ·
          refine L.y rfl (Y.pickF rfl rfl) ?_
          exact L.nil (E.joinJ ⟨false, rfl, rfl, h⟩ ⟨rfl, rfl, rfl, rfl, rfl, rfl, rfl, trivial⟩ (fun _ hw => hw))
       ·
        rintro _ _ ⟨gb5, rfl, rfl, h⟩
        rw [m5_quirref_RunErr_K8] at h
        rcases gb5 with _ | _
        ·
         replace h := iteF h
         refine L.y rfl (Y.move rfl) ?_
         refine L.take rfl (L.y rfl (Y.fieldP fd30_2 rfl) ?_)
         refine L.take rfl (L.y rfl (Y.loadP (i := 0) ag3 rfl rfl rfl) ?_)
         refine L.take rfl (L.ite h rfl (Y.lss rfl rfl) (fun c17 h => ?_) (fun c17 h => ?_))
         ·
          refine L.y rfl (Y.pickF rfl rfl) ?_
          refine L.y rfl (Y.move rfl) ?_
          refine L.pass rfl rfl (by nofun) ?_
          refine L.pass rfl rfl (by nofun) ?_
          refine L.pass rfl rfl (by nofun) ?_
          refine L.y rfl (Y.pickT rfl rfl) ?_
          refine L.nil (E.thenN (W.condT rfl ?_))
          refine W.seq (W.region (L.y rfl (Y.assign rfl) ?_))
          refine L.nil (E.thenN (W.ret (E.KSR (E.blockR (E.KSR (E.KLR (E.blockR (E.KSR (E.ret1 rfl rfl (fun w1 hw => ?_))))))))))
          obtain rfl := Option.some.inj h
          exact ⟨_, _, rfl, ⟨rfl, rfl⟩, hw.sel [] (by decide) rfl⟩
         ·
          refine L.y rfl (Y.pickF rfl rfl) ?_
          refine L.y rfl (Y.move rfl) ?_
          refine L.take rfl (L.y rfl (Y.fieldP fd30_2 rfl) ?_)
          refine L.take rfl (L.y rfl (Y.loadP (i := 0) ag3 rfl rfl rfl) ?_)
          refine L.take rfl (L.ite h rfl (Y.gtr rfl rfl) (fun c18 h => ?_) (fun c18 h => ?_))
          ·
           refine L.y rfl (Y.pickF rfl rfl) ?_
           refine L.nil (E.thenN (W.condT rfl ?_))
           refine W.seq (W.region (L.y rfl (Y.assign rfl) ?_))
           refine L.nil (E.thenN (W.ret (E.KSR (E.blockR (E.KSR (E.KLR (E.blockR (E.KSR (E.ret1 rfl rfl (fun w1 hw => ?_))))))))))
           obtain rfl := Option.some.inj h
           exact ⟨_, _, rfl, ⟨rfl, rfl⟩, hw.sel [] (by decide) rfl⟩
          ·
           refine L.y rfl (Y.pickF rfl rfl) ?_
           refine L.nil (E.thenN (W.condF rfl ?_))
           exact W.skip (E.joinJ ⟨rfl, rfl, h⟩ ⟨rfl, rfl, rfl, rfl, rfl, rfl, trivial⟩ (fun _ hw => hw))
        ·
         replace h := iteT h
         refine L.y rfl (Y.move rfl) ?_
         refine L.pass rfl rfl (by nofun) ?_
         refine L.pass rfl rfl (by nofun) ?_
         refine L.pass rfl rfl (by nofun) ?_
         refine L.y rfl (Y.pickT rfl rfl) ?_
         refine L.y rfl (Y.move rfl) ?_
         refine L.pass rfl rfl (by nofun) ?_
         refine L.pass rfl rfl (by nofun) ?_
         refine L.pass rfl rfl (by nofun) ?_
         refine L.y rfl (Y.pickT rfl rfl) ?_
         refine L.nil (E.thenN (W.condT rfl ?_))
         refine W.seq (W.region (L.y rfl (Y.assign rfl) ?_))
         refine L.nil (E.thenN (W.ret (E.KSR (E.blockR (E.KSR (E.KLR (E.blockR (E.KSR (E.ret1 rfl rfl (fun w1 hw => ?_))))))))))
         obtain rfl := Option.some.inj h
         exact ⟨_, _, rfl, ⟨rfl, rfl⟩, hw.sel [] (by decide) rfl⟩
      ·
       rintro _ _ ⟨rfl, rfl, h⟩
       rw [m5_quirref_RunErr_K4] at h
       refine W.seqJ (fun gs D => gs = [(0, u0), (3, .int .i64 gx1), (4, pt b4 0), (10, u0), (11, .int .i64 (a0.length : Int)), (12, .int .i64 gx1)] ∧ D = Cls w [] [.obj b4 [.int .i64 x3.Tx, .int .i64 x3.Kind, .int .i64 x3.Item] 30] ∧ m5_quirref_RunErr_K5 a0 gx1 x3 go1 = some r) ?_ ?_
       ·
        refine W.seq (W.region (L.cutJ 8 (fun gs D => ∃ (gb3 : Bool), gs = [(0, u0), (3, .int .i64 gx1), (4, pt b4 0), (10, u0), (11, .int .i64 (a0.length : Int)), (12, .int .i64 gx1), (42, .bool gb3)] ∧ D = Cls w [] [.obj b4 [.int .i64 x3.Tx, .int .i64 x3.Kind, .int .i64 x3.Item] 30] ∧ m5_quirref_RunErr_K6 x3 a0 gx1 go1 gb3 = some r) ?_ ?_))
        ·
         refine L.y rfl (Y.fieldP fd30_1 rfl) ?_
         refine L.y rfl (Y.loadP (i := 0) ag3 rfl rfl rfl) ?_
         refine L.ite h rfl (Y.lss rfl rfl) (fun c15 h => ?_) (fun c15 h => ?_)
         ·
          refine L.y rfl (Y.move rfl) ?_
          refine L.pass rfl rfl (by nofun) ?_
          refine L.pass rfl rfl (by nofun) ?_
          refine L.pass rfl rfl (by nofun) ?_
          refine L.y rfl (Y.pickT rfl rfl) ?_
          exact L.nil (E.joinJ ⟨true, rfl, rfl, h⟩ ⟨rfl, rfl, rfl, rfl, rfl, rfl, rfl, trivial⟩ (fun _ hw => hw))
         ·
          refine L.y rfl (Y.move rfl) ?_
          refine L.take rfl (L.y rfl (Y.fieldP fd30_1 rfl) ?_)
          refine L.take rfl (L.y rfl (Y.loadP (i := 0) ag3 rfl rfl rfl) ?_)
          refine L.take rfl (L.ite h rfl (Y.gtr rfl rfl) (fun c16 h => ?_) (fun c16 h => ?_))
          ·
           refine L.y rfl (Y.pickF rfl rfl) ?_
           exact L.nil (E.joinJ ⟨true, rfl, rfl, h⟩ ⟨rfl, rfl, rfl, rfl, rfl, rfl, rfl, trivial⟩ (fun _ hw => hw))
          ·
           refine L.y rfl (Y.pickF rfl rfl) ?_
           exact L.nil (E.joinJ ⟨false, rfl, rfl, h⟩ ⟨rfl, rfl, rfl, rfl, rfl, rfl, rfl, trivial⟩ (fun _ hw => hw))
        ·
         rintro _ _ ⟨gb3, rfl, rfl, h⟩
         rw [m5_quirref_RunErr_K6] at h
         rcases gb3 with _ | _
         ·
          replace h := iteF h
          refine L.cutJ 9 (fun gs D => ∃ (gb4 : Bool), gs = [(0, u0), (3, .int .i64 gx1), (4, pt b4 0), (10, u0), (11, .int .i64 (a0.length : Int)), (12, .int .i64 gx1), (43, .bool false), (51, .bool gb4)] ∧ D = Cls w [] [.obj b4 [.int .i64 x3.Tx, .int .i64 x3.Kind, .int .i64 x3.Item] 30] ∧ m5_quirref_RunErr_K7 a0 gx1 x3 go1 gb4 = some r) ?_ ?_
          ·
           refine L.y rfl (Y.move rfl) ?_
           refine L.take rfl (L.y rfl (Y.fieldP fd30_1 rfl) ?_)
           refine L.take rfl (L.y rfl (Y.loadP (i := 0) ag3 rfl rfl rfl) ?_)
           refine L.take rfl (L.ite h rfl (Y.gtr rfl rfl) (fun c13 h => ?_) (fun c13 h => ?_))
           ·
            refine L.take rfl (L.y rfl (Y.move rfl) ?_)
            refine L.take rfl (L.y rfl (Y.fieldP fd30_2 rfl) ?_)
            refine L.take rfl (L.y rfl (Y.loadP (i := 0) ag3 rfl rfl rfl) ?_)
            refine L.take rfl (L.ite h rfl (Y.neq rfl rfl) (fun c14 h => ?_) (fun c14 h => ?_))
            ·
             refine L.take rfl (L.y rfl (Y.pickT rfl rfl) ?_)
             exact L.nil (E.joinJ ⟨true, rfl, rfl, h⟩ ⟨rfl, rfl, rfl, rfl, rfl, rfl, rfl, rfl, trivial⟩ (fun _ hw => hw))
            ·
             refine L.take rfl (L.y rfl (Y.pickT rfl rfl) ?_)
             exact L.nil (E.joinJ ⟨false, rfl, rfl, h⟩ ⟨rfl, rfl, rfl, rfl, rfl, rfl, rfl, rfl, trivial⟩ (fun _ hw => hw))
           ·
            refine L.take rfl (L.y rfl (Y.move rfl) ?_)
            refine L.pass rfl rfl (by nofun) ?_
            refine L.pass rfl rfl (by nofun) ?_
            refine L.pass rfl rfl (by nofun) ?_
            refine L.take rfl (L.y rfl (Y.pickF rfl rfl) ?_)
            exact L.nil (E.joinJ ⟨false, rfl, rfl, h⟩ ⟨rfl, rfl, rfl, rfl, rfl, rfl, rfl, rfl, trivial⟩ (fun _ hw => hw))
          ·
           rintro _ _ ⟨gb4, rfl, rfl, h⟩
           rw [m5_quirref_RunErr_K7] at h
           rcases gb4 with _ | _
           ·
            replace h := iteF h
            refine L.y rfl (Y.pickF rfl rfl) ?_
            refine L.nil (E.thenN (W.condF rfl ?_))
            exact W.skip (E.joinJ ⟨rfl, rfl, h⟩ ⟨rfl, rfl, rfl, rfl, rfl, rfl, trivial⟩ (fun _ hw => hw))
           ·
            replace h := iteT h
            refine L.y rfl (Y.pickF rfl rfl) ?_
            refine L.nil (E.thenN (W.condT rfl ?_))
            refine W.seq (W.region (L.y rfl (Y.assign rfl) ?_))
            refine L.nil (E.thenN (W.ret (E.KSR (E.blockR (E.KSR (E.KLR (E.blockR (E.KSR (E.ret1 rfl rfl (fun w1 hw => ?_))))))))))
            obtain rfl := Option.some.inj h
            exact ⟨_, _, rfl, ⟨rfl, rfl⟩, hw.sel [] (by decide) rfl⟩
         ·
          replace h := iteT h
          refine L.y rfl (Y.move rfl) ?_
          refine L.pass rfl rfl (by nofun) ?_
          refine L.pass rfl rfl (by nofun) ?_
          refine L.pass rfl rfl (by nofun) ?_
          refine L.pass rfl rfl (by nofun) ?_
          refine L.pass rfl rfl (by nofun) ?_
          refine L.pass rfl rfl (by nofun) ?_
          refine L.pass rfl rfl (by nofun) ?_
          refine L.pass rfl rfl (by nofun) ?_
          refine L.y rfl (Y.pickT rfl rfl) ?_
          refine L.nil (E.thenN (W.condT rfl ?_))
          refine W.seq (W.region (L.y rfl (Y.assign rfl) ?_))
          refine L.nil (E.thenN (W.ret (E.KSR (E.blockR (E.KSR (E.KLR (E.blockR (E.KSR (E.ret1 rfl rfl (fun w1 hw => ?_))))))))))
          obtain rfl := Option.some.inj h
          exact ⟨_, _, rfl, ⟨rfl, rfl⟩, hw.sel [] (by decide) rfl⟩
       ·
        rintro _ _ ⟨rfl, rfl, h⟩
        rw [m5_quirref_RunErr_K5] at h
        refine W.seq (W.region (L.y rfl (Y.move rfl) ?_))
        refine L.y rfl (Y.move rfl) ?_
        refine L.m (V := fun _ => cutv u0 gx1.toNat) h rfl (Y.cutM (g := TOp.row) Try.underlying22 sz30 rfl rfl (fun w' hw => hA0.cls0 hw)) (fun l5 el5 h => ?_)
        refine L.y rfl (Y.lenM (g := TOp.row) (l := l5) Try.underlying22 rfl (fun w' hw => (hA0.cutM el5).cls0 hw)) ?_
        refine L.y rfl (Y.move rfl) ?_
        refine L.nil (E.thenN (W.block (W.loopJ (fun m gs D => ∃ (gx2 : Int), gs = [(0, u0), (4, pt b4 0), (10, u0), (11, .int .i64 (a0.length : Int)), (12, .int .i64 gx1), (55, cutv u0 gx1.toNat), (56, .int .i64 (l5.length : Int)), (57, .int .i64 gx2)] ∧ D = Cls w [] [.obj b4 [.int .i64 x3.Tx, .int .i64 x3.Kind, .int .i64 x3.Item] 30] ∧ m5_quirref_RunErr_L2 l5 x3 gx1 go1 m gx2 = some r) ⟨0, rfl, rfl, h⟩ ⟨rfl, rfl, rfl, rfl, rfl, rfl, rfl, rfl, trivial⟩ (fun _ hw => hw) ?_)))
        rintro m _ _ ⟨gx2, rfl, rfl, h⟩
        rcases m with _ | m
        · rw [m5_quirref_RunErr_L2] at h; cases h
        rw [m5_quirref_RunErr_L2] at h
        generalize hg2 : m5_quirref_RunErr_L2 l5 x3 gx1 go1 m = go2 at h
        rw [m5_quirref_RunErr_L2B] at h
        refine W.seq (W.region (L.ite h rfl (Y.lss rfl rfl) (fun c6 h => ?_) (fun c6 h => ?_)))
        ·
         refine L.nil (E.thenN (W.seq (W.condT rfl ?_)))
         refine W.skip (E.thenN (W.seq (W.block (W.seq (W.region (L.m (V := fun _ => el (cutv u0 gx1.toNat) (gx2.toNat * 3)) h rfl (Y.indexM (g := TOp.row) (l := l5) Try.underlying22 sz30 rfl rfl (fun w' hw => (hA0.cutM el5).cls0 hw)) (fun x7 ex7 h => ?_)))))))
         refine L.y rfl (Y.loadEN (r := [.int .i64 x7.Tx, .int .i64 x7.Kind, .int .i64 x7.Item]) ag30 sz30 rfl (fun w' hw => (hA0.cutM el5).cls0 hw) (idx_map ex7) rfl) ?_
         refine L.alloc rfl ze30 ?_
         intro b8
         refine L.store (i := 0) (vs := [.int .i64 x7.Tx, .int .i64 x7.Kind, .int .i64 x7.Item]) sz30 rfl rfl rfl rfl (by simp [Value.oneCell', Value.cells, st, pt, el]) rfl (Nat.le_of_ble_eq_true rfl) ?_
         refine L.nil (E.thenN (W.seq (W.region (L.y rfl (Y.fieldP fd30_0 rfl) ?_))))
         refine L.y rfl (Y.loadP (i := 0) ag3 rfl rfl rfl) ?_
         refine L.y rfl (Y.fieldP fd30_0 rfl) ?_
         refine L.y rfl (Y.loadP (i := 1) ag3 rfl rfl rfl) ?_
         refine L.ite h rfl (Y.eql rfl rfl) (fun c9 h => ?_) (fun c9 h => ?_)
         ·
          refine L.y rfl (Y.move rfl) ?_
          refine L.take rfl (L.y rfl (Y.fieldP fd30_1 rfl) ?_)
          refine L.take rfl (L.y rfl (Y.loadP (i := 0) ag3 rfl rfl rfl) ?_)
          refine L.take rfl (L.ite h rfl (Y.gtr rfl rfl) (fun c10 h => ?_) (fun c10 h => ?_))
          ·
           refine L.y rfl (Y.pickT rfl rfl) ?_
           refine L.nil (E.thenN (W.condT rfl ?_))
           refine W.seq (W.region (L.y rfl (Y.assign rfl) ?_))
           refine L.nil (E.thenN (W.ret (E.blockR (E.thenR (E.KLR (E.blockR (E.blockR (E.KSR (E.KLR (E.blockR (E.KSR (E.ret1 rfl rfl (fun w1 hw => ?_)))))))))))))
           obtain rfl := Option.some.inj h
           exact ⟨_, _, rfl, ⟨rfl, rfl⟩, hw.sel [] (by decide) rfl⟩
          ·
           refine L.y rfl (Y.pickT rfl rfl) ?_
           refine L.nil (E.thenN (W.condF rfl ?_))
           refine W.skip (E.blockN (E.thenN (W.region (L.m (V := fun x11 => .int .i64 x11) h rfl (Y.addM rfl rfl) (fun x11 ex11 h => ?_)))))
           refine L.y rfl (Y.move rfl) ?_
           exact L.nil (E.againJ ⟨x11, rfl, rfl, by rw [hg2]; exact h⟩ (Nat.lt_succ_self _) ⟨rfl, rfl, rfl, rfl, rfl, rfl, rfl, rfl, trivial⟩ (fun _ hw => hw.sel [1] (by decide) rfl))
         ·
          refine L.y rfl (Y.move rfl) ?_
          refine L.pass rfl rfl (by nofun) ?_
          refine L.pass rfl rfl (by nofun) ?_
          refine L.pass rfl rfl (by nofun) ?_
          refine L.y rfl (Y.pickF rfl rfl) ?_
          refine L.nil (E.thenN (W.condF rfl ?_))
          refine W.skip (E.blockN (E.thenN (W.region (L.m (V := fun x12 => .int .i64 x12) h rfl (Y.addM rfl rfl) (fun x12 ex12 h => ?_)))))
          refine L.y rfl (Y.move rfl) ?_
          exact L.nil (E.againJ ⟨x12, rfl, rfl, by rw [hg2]; exact h⟩ (Nat.lt_succ_self _) ⟨rfl, rfl, rfl, rfl, rfl, rfl, rfl, rfl, trivial⟩ (fun _ hw => hw.sel [1] (by decide) rfl))
        ·
         refine L.nil (E.thenN (W.seq (W.condF rfl ?_)))
         exact W.exit (E.thenX (E.KLX (E.blockX (E.blockN (E.joinJ ⟨rfl, rfl, h⟩ ⟨rfl, rfl, rfl, rfl, trivial⟩ (fun _ hw => hw.sel [] (by decide) rfl))))))
     ·
      rintro _ _ ⟨rfl, rfl, h⟩
      rw [m5_quirref_RunErr_K3] at h
      refine W.region (L.m (V := fun x2 => .int .i64 x2) h rfl (Y.addM rfl rfl) (fun x2 ex2 h => ?_))
      refine L.y rfl (Y.move rfl) ?_
      exact L.nil (E.againJ ⟨x2, rfl, rfl, by rw [hg1]; exact h⟩ (Nat.lt_succ_self _) ⟨rfl, rfl, rfl, rfl, trivial⟩ (fun _ hw => hw))
    ·
     refine L.nil (E.thenN (W.seq (W.condF rfl ?_)))
     exact W.exit (E.thenX (E.KLX (E.blockX (E.joinJ ⟨rfl, rfl, h⟩ trivial (fun _ hw => hw)))))
   ·
    rintro _ _ ⟨rfl, rfl, h⟩
    rw [m5_quirref_RunErr_K2] at h
    refine W.seq (W.region (L.y rfl (Y.assign rfl) ?_))
    refine L.nil (E.thenN (W.ret (E.ret1 rfl rfl (fun w1 hw => ?_))))
    obtain rfl := Option.some.inj h
    exact ⟨_, _, rfl, ⟨rfl, rfl⟩, hw⟩
set_option maxRecDepth 100000 in
set_option maxHeartbeats 8000000 in
theorem w4_quirlaw_firstOf (a0 : Int) (a1 : Int) (w : World) (r : Int) (h : m4_quirlaw_firstOf a0 a1 = some r) : Does Try.prog 4 [.int .i64 a0, .int .i64 a1] w fun u m => u = .int .i64 r ∧ m = [] := by
  rw [m4_quirlaw_firstOf] at h
  refine body (n := 9) Try.func4 rfl rfl rfl (Cls.refl w) ?_
  refine W.seq (W.region (L.y rfl (Y.assign rfl) ?_))
  refine L.nil (E.thenN (W.seq (W.seq (W.region (L.y rfl (Y.move rfl) ?_)))))
  refine L.ite h rfl (Y.neq rfl rfl) (fun c1 h => ?_) (fun c1 h => ?_)
  ·
   refine L.nil (E.thenN (W.condT rfl ?_))
   refine W.seq (W.region (L.y rfl (Y.move rfl) ?_))
   refine L.y rfl (Y.assign rfl) ?_
   refine L.nil (E.thenN (W.ret (E.thenR (E.ret1 rfl rfl (fun w1 hw => ?_)))))
   obtain rfl := Option.some.inj h
   exact ⟨_, _, rfl, ⟨rfl, rfl⟩, hw⟩
  ·
   refine L.nil (E.thenN (W.condF rfl ?_))
   refine W.skip (E.thenN (W.seq (W.region (L.y rfl (Y.move rfl) ?_))))
   refine L.y rfl (Y.assign rfl) ?_
   refine L.nil (E.thenN (W.ret (E.ret1 rfl rfl (fun w1 hw => ?_))))
   obtain rfl := Option.some.inj h
   exact ⟨_, _, rfl, ⟨rfl, rfl⟩, hw⟩
set_option maxRecDepth 100000 in
set_option maxHeartbeats 8000000 in
theorem w10_run_Check (a0 : (List TOp)) (u0 : Value) (w : World) (r : Int) (h : m10_run_Check a0 = some r) (hA0 : At w u0 3 (a0.map TOp.row)) : Does Try.prog 10 [u0] w fun u m => u = .int .i64 r ∧ m = [] := by
  rw [m10_run_Check] at h
  refine body (n := 55) Try.func10 rfl rfl rfl (Cls.refl w) ?_
  refine W.seq (W.region (L.y rfl (Y.assign rfl) ?_))
  refine L.nil (E.thenN (W.seqJ (fun gs D => gs = [(0, u0)] ∧ D = Cls w [] [] ∧ m10_run_Check_K1 a0 = some r) ?_ ?_))
  ·
   refine W.seq (W.region (L.y rfl (Y.move rfl) ?_))
   refine L.y rfl (Y.lenM (g := TOp.row) (l := a0) Try.underlying22 rfl (fun w' hw => hA0.cls0 hw)) ?_
   refine L.ite h rfl (Y.gtr rfl rfl) (fun c20 h => ?_) (fun c20 h => ?_)
   ·
    refine L.nil (E.thenN (W.condT rfl ?_))
    refine W.seq (W.region (L.y rfl (Y.assign rfl) ?_))
    refine L.nil (E.thenN (W.ret (E.KSR (E.ret1 rfl rfl (fun w1 hw => ?_)))))
    obtain rfl := Option.some.inj h
    exact ⟨_, _, rfl, ⟨rfl, rfl⟩, hw⟩
   ·
    refine L.nil (E.thenN (W.condF rfl ?_))
    exact W.skip (E.joinJ ⟨rfl, rfl, h⟩ ⟨rfl, trivial⟩ (fun _ hw => hw))
  ·
   rintro _ _ ⟨rfl, rfl, h⟩
   rw [m10_run_Check_K1] at h
   refine W.seq (W.region (L.alloc rfl ze59 ?_))
   intro b1
   refine L.to (D := Cls w [] [.obj b1 (((List.replicate 12 (false : Bool)).map B).flatten) 59]) (fun _ hw => by first | exact hw | simpa [I, B, SR] using hw) ?_
   refine L.nil (E.thenN (W.seqJ (fun gs D => gs = [] ∧ D = Cls w [] [] ∧ m10_run_Check_K2 = some r) ?_ ?_))
   ·
    refine W.seq (W.region (L.y rfl (Y.move rfl) ?_))
    refine L.y rfl (Y.lenM (g := TOp.row) (l := a0) Try.underlying22 rfl (fun w' hw => hA0.cls0 hw)) ?_
    refine L.y rfl (Y.move rfl) ?_
    refine L.nil (E.thenN (W.block (W.loopJ (fun m gs D => ∃ (gx1 : Int) (gl2 : (List Bool)), gs = [(3, pt b1 0), (9, u0), (10, .int .i64 (a0.length : Int)), (11, .int .i64 gx1)] ∧ D = Cls w [] [.obj b1 ((gl2.map B).flatten) 59] ∧ m10_run_Check_L1 a0 m gx1 gl2 = some r) ⟨0, (List.replicate 12 (false : Bool)), rfl, rfl, h⟩ ⟨rfl, rfl, rfl, rfl, trivial⟩ (fun _ hw => hw) ?_)))
    rintro m _ _ ⟨gx1, gl2, rfl, rfl, h⟩
    rcases m with _ | m
    · rw [m10_run_Check_L1] at h; cases h
    rw [m10_run_Check_L1] at h
    generalize hg1 : m10_run_Check_L1 a0 m = go1 at h
    rw [m10_run_Check_L1B] at h
    refine W.seq (W.region (L.ite h rfl (Y.lss rfl rfl) (fun c2 h => ?_) (fun c2 h => ?_)))
    ·
     refine L.nil (E.thenN (W.seq (W.condT rfl ?_)))
     refine W.skip (E.thenN (W.seqJ (fun gs D => ∃ (gl3 : (List Bool)), gs = [(3, pt b1 0), (9, u0), (10, .int .i64 (a0.length : Int)), (11, .int .i64 gx1)] ∧ D = Cls w [] [.obj b1 ((gl3.map B).flatten) 59] ∧ m10_run_Check_K3 gx1 go1 gl3 = some r) ?_ ?_))
     ·
      refine W.block (W.seq (W.region (L.m (V := fun _ => el u0 (gx1.toNat * 3)) h rfl (Y.indexM (g := TOp.row) (l := a0) Try.underlying22 sz30 rfl rfl (fun w' hw => hA0.cls0 hw)) (fun x4 ex4 h => ?_))))
      refine L.y rfl (Y.loadEN (r := [.int .i64 x4.Tx, .int .i64 x4.Kind, .int .i64 x4.Item]) ag30 sz30 rfl (fun w' hw => hA0.cls0 hw) (idx_map ex4) rfl) ?_
      refine L.alloc rfl ze30 ?_
      intro b5
      refine L.store (i := 0) (vs := [.int .i64 x4.Tx, .int .i64 x4.Kind, .int .i64 x4.Item]) sz30 rfl rfl rfl rfl (by simp [Value.oneCell', Value.cells, st, pt, el]) rfl (Nat.le_of_ble_eq_true rfl) ?_
      refine L.nil (E.thenN (W.seqJ (fun gs D => gs = [(3, pt b1 0), (5, pt b5 0), (9, u0), (10, .int .i64 (a0.length : Int)), (11, .int .i64 gx1)] ∧ D = Cls w [] [.obj b5 [.int .i64 x4.Tx, .int .i64 x4.Kind, .int .i64 x4.Item] 30, .obj b1 ((gl2.map B).flatten) 59] ∧ m10_run_Check_K4 x4 gl2 gx1 go1 = some r) ?_ ?_))
      ·
       refine W.seq (W.region (L.cutJ 8 (fun gs D => ∃ (gb5 : Bool), gs = [(3, pt b1 0), (5, pt b5 0), (9, u0), (10, .int .i64 (a0.length : Int)), (11, .int .i64 gx1), (22, .bool gb5)] ∧ D = Cls w [] [.obj b5 [.int .i64 x4.Tx, .int .i64 x4.Kind, .int .i64 x4.Item] 30, .obj b1 ((gl2.map B).flatten) 59] ∧ m10_run_Check_K7 x4 gl2 gx1 go1 gb5 = some r) ?_ ?_))
       ·
        refine L.y rfl (Y.fieldP fd30_0 rfl) ?_
        refine L.y rfl (Y.loadP (i := 0) ag3 rfl rfl rfl) ?_
        refine L.ite h rfl (Y.lss rfl rfl) (fun c18 h => ?_) (fun c18 h => ?_)
        ·
         refine L.y rfl (Y.move rfl) ?_
         refine L.pass rfl rfl (by nofun) ?_
         refine L.pass rfl rfl (by nofun) ?_
         refine L.pass rfl rfl (by nofun) ?_
         refine L.y rfl (Y.pickT rfl rfl) ?_
         exact L.nil (E.joinJ ⟨true, rfl, rfl, h⟩ ⟨rfl, rfl, rfl, rfl, rfl, rfl, trivial⟩ (fun _ hw => hw))
        ·
         refine L.y rfl (Y.move rfl) ?_
         refine L.take rfl (L.y rfl (Y.fieldP fd30_0 rfl) ?_)
         refine L.take rfl (L.y rfl (Y.loadP (i := 0) ag3 rfl rfl rfl) ?_)
         refine L.take rfl (L.ite h rfl (Y.geq rfl rfl) (fun c19 h => ?_) (fun c19 h => ?_))
         ·
          refine L.y rfl (Y.pickF rfl rfl) ?_
          exact L.nil (E.joinJ ⟨true, rfl, rfl, h⟩ ⟨rfl, rfl, rfl, rfl, rfl, rfl, trivial⟩ (fun _ hw => hw))
         ·
          refine L.y rfl (Y.pickF rfl rfl) ?_
          exact L.nil (E.joinJ ⟨false, rfl, rfl, h⟩ ⟨rfl, rfl, rfl, rfl, rfl, rfl, trivial⟩ (fun _ hw => hw))
       ·
        rintro _ _ ⟨gb5, rfl, rfl, h⟩
        rw [m10_run_Check_K7] at h
        rcases gb5 with _ | _
        ·
         replace h := iteF h
         refine L.y rfl (Y.move rfl) ?_
         refine L.take rfl (L.y rfl (Y.fieldP fd30_2 rfl) ?_)
         refine L.take rfl (L.y rfl (Y.loadP (i := 0) ag3 rfl rfl rfl) ?_)
         refine L.take rfl (L.ite h rfl (Y.lss rfl rfl) (fun c16 h => ?_) (fun c16 h => ?_))
         ·
          refine L.y rfl (Y.pickF rfl rfl) ?_
          refine L.y rfl (Y.move rfl) ?_
          refine L.pass rfl rfl (by nofun) ?_
          refine L.pass rfl rfl (by nofun) ?_
          refine L.pass rfl rfl (by nofun) ?_
          refine L.y rfl (Y.pickT rfl rfl) ?_
          refine L.nil (E.thenN (W.condT rfl ?_))
          refine W.seq (W.region (L.y rfl (Y.assign rfl) ?_))
          refine L.nil (E.thenN (W.ret (E.KSR (E.blockR (E.KSR (E.KLR (E.blockR (E.KSR (E.ret1 rfl rfl (fun w1 hw => ?_))))))))))
          obtain rfl := Option.some.inj h
          exact ⟨_, _, rfl, ⟨rfl, rfl⟩, hw.sel [] (by decide) rfl⟩
         ·
          refine L.y rfl (Y.pickF rfl rfl) ?_
          refine L.y rfl (Y.move rfl) ?_
          refine L.take rfl (L.y rfl (Y.fieldP fd30_2 rfl) ?_)
          refine L.take rfl (L.y rfl (Y.loadP (i := 0) ag3 rfl rfl rfl) ?_)
          refine L.take rfl (L.ite h rfl (Y.geq rfl rfl) (fun c17 h => ?_) (fun c17 h => ?_))
          ·
           refine L.y rfl (Y.pickF rfl rfl) ?_
           refine L.nil (E.thenN (W.condT rfl ?_))
           refine W.seq (W.region (L.y rfl (Y.assign rfl) ?_))
           refine L.nil (E.thenN (W.ret (E.KSR (E.blockR (E.KSR (E.KLR (E.blockR (E.KSR (E.ret1 rfl rfl (fun w1 hw => ?_))))))))))
           obtain rfl := Option.some.inj h
           exact ⟨_, _, rfl, ⟨rfl, rfl⟩, hw.sel [] (by decide) rfl⟩
          ·
           refine L.y rfl (Y.pickF rfl rfl) ?_
           refine L.nil (E.thenN (W.condF rfl ?_))
           exact W.skip (E.joinJ ⟨rfl, rfl, h⟩ ⟨rfl, rfl, rfl, rfl, rfl, trivial⟩ (fun _ hw => hw))
        ·
         replace h := iteT h
         refine L.y rfl (Y.move rfl) ?_
         refine L.pass rfl rfl (by nofun) ?_
         refine L.pass rfl rfl (by nofun) ?_
         refine L.pass rfl rfl (by nofun) ?_
         refine L.y rfl (Y.pickT rfl rfl) ?_
         refine L.y rfl (Y.move rfl) ?_
         refine L.pass rfl rfl (by nofun) ?_
         refine L.pass rfl rfl (by nofun) ?_
         refine L.pass rfl rfl (by nofun) ?_
         refine L.y rfl (Y.pickT rfl rfl) ?_
         refine L.nil (E.thenN (W.condT rfl ?_))
         refine W.seq (W.region (L.y rfl (Y.assign rfl) ?_))
         refine L.nil (E.thenN (W.ret (E.KSR (E.blockR (E.KSR (E.KLR (E.blockR (E.KSR (E.ret1 rfl rfl (fun w1 hw => ?_))))))))))
         obtain rfl := Option.some.inj h
         exact ⟨_, _, rfl, ⟨rfl, rfl⟩, hw.sel [] (by decide) rfl⟩
      ·
       rintro _ _ ⟨rfl, rfl, h⟩
       rw [m10_run_Check_K4] at h
       refine W.seqJ (fun gs D => gs = [(3, pt b1 0), (5, pt b5 0), (9, u0), (10, .int .i64 (a0.length : Int)), (11, .int .i64 gx1)] ∧ D = Cls w [] [.obj b5 [.int .i64 x4.Tx, .int .i64 x4.Kind, .int .i64 x4.Item] 30, .obj b1 ((gl2.map B).flatten) 59] ∧ m10_run_Check_K5 gl2 x4 gx1 go1 = some r) ?_ ?_
       ·
        refine W.seq (W.region (L.y rfl (Y.fieldP fd30_1 rfl) ?_))
        refine L.y rfl (Y.loadP (i := 0) ag3 rfl rfl rfl) ?_
        refine L.nil (E.thenN (W.block (W.seqJ (fun gs D => ∃ (gb4 : Bool), gs = [(3, pt b1 0), (5, pt b5 0), (9, u0), (10, .int .i64 (a0.length : Int)), (11, .int .i64 gx1), (34, .int .i64 x4.Kind), (35, .bool gb4)] ∧ D = Cls w [] [.obj b5 [.int .i64 x4.Tx, .int .i64 x4.Kind, .int .i64 x4.Item] 30, .obj b1 ((gl2.map B).flatten) 59] ∧ m10_run_Check_K6 gl2 x4 gx1 go1 gb4 = some r) ?_ ?_)))
        ·
         refine W.seq (W.region (L.ite h rfl (Y.eql rfl rfl) (fun c14 h => ?_) (fun c14 h => ?_)))
         ·
          refine L.y rfl (Y.assign rfl) ?_
          refine L.nil (E.thenN (W.condT rfl ?_))
          exact W.skip (E.joinJ ⟨true, rfl, rfl, h⟩ ⟨rfl, rfl, rfl, rfl, rfl, rfl, rfl, trivial⟩ (fun _ hw => hw))
         ·
          refine L.y rfl (Y.assign rfl) ?_
          refine L.nil (E.thenN (W.condF rfl ?_))
          refine W.region (L.ite h rfl (Y.eql rfl rfl) (fun c15 h => ?_) (fun c15 h => ?_))
          ·
           refine L.y rfl (Y.assign rfl) ?_
           exact L.nil (E.joinJ ⟨true, rfl, rfl, h⟩ ⟨rfl, rfl, rfl, rfl, rfl, rfl, rfl, trivial⟩ (fun _ hw => hw))
          ·
           refine L.y rfl (Y.assign rfl) ?_
           exact L.nil (E.joinJ ⟨false, rfl, rfl, h⟩ ⟨rfl, rfl, rfl, rfl, rfl, rfl, rfl, trivial⟩ (fun _ hw => hw))
        ·
         rintro _ _ ⟨gb4, rfl, rfl, h⟩
         rw [m10_run_Check_K6] at h
         rcases gb4 with _ | _
         ·
          replace h := iteF h
          refine W.condF rfl ?_
          refine W.seq (W.seq (W.region (L.ite h rfl (Y.eql rfl rfl) (fun c10 h => ?_) (fun c10 h => ?_))))
          ·
           refine L.y rfl (Y.assign rfl) ?_
           refine L.nil (E.thenN (W.condT rfl ?_))
           refine W.skip (E.thenN (W.condT rfl ?_))
           refine W.seq (W.region (L.y rfl (Y.fieldP fd30_2 rfl) ?_))
           refine L.y rfl (Y.loadP (i := 0) ag3 rfl rfl rfl) ?_
           refine L.ite h rfl (Y.neq rfl rfl) (fun c11 h => ?_) (fun c11 h => ?_)
           ·
            refine L.nil (E.thenN (W.condT rfl ?_))
            refine W.seq (W.region (L.y rfl (Y.assign rfl) ?_))
            refine L.nil (E.thenN (W.ret (E.blockR (E.KSR (E.blockR (E.KSR (E.KLR (E.blockR (E.KSR (E.ret1 rfl rfl (fun w1 hw => ?_)))))))))))
            obtain rfl := Option.some.inj h
            exact ⟨_, _, rfl, ⟨rfl, rfl⟩, hw.sel [] (by decide) rfl⟩
           ·
            refine L.nil (E.thenN (W.condF rfl ?_))
            exact W.skip (E.blockN (E.joinJ ⟨rfl, rfl, h⟩ ⟨rfl, rfl, rfl, rfl, rfl, trivial⟩ (fun _ hw => hw)))
          ·
           refine L.y rfl (Y.assign rfl) ?_
           refine L.nil (E.thenN (W.condF rfl ?_))
           refine W.region (L.ite h rfl (Y.eql rfl rfl) (fun c12 h => ?_) (fun c12 h => ?_))
           ·
            refine L.y rfl (Y.assign rfl) ?_
            refine L.nil (E.thenN (W.condT rfl ?_))
            refine W.seq (W.region (L.y rfl (Y.fieldP fd30_2 rfl) ?_))
            refine L.y rfl (Y.loadP (i := 0) ag3 rfl rfl rfl) ?_
            refine L.ite h rfl (Y.neq rfl rfl) (fun c13 h => ?_) (fun c13 h => ?_)
            ·
             refine L.nil (E.thenN (W.condT rfl ?_))
             refine W.seq (W.region (L.y rfl (Y.assign rfl) ?_))
             refine L.nil (E.thenN (W.ret (E.blockR (E.KSR (E.blockR (E.KSR (E.KLR (E.blockR (E.KSR (E.ret1 rfl rfl (fun w1 hw => ?_)))))))))))
             obtain rfl := Option.some.inj h
             exact ⟨_, _, rfl, ⟨rfl, rfl⟩, hw.sel [] (by decide) rfl⟩
            ·
             refine L.nil (E.thenN (W.condF rfl ?_))
             exact W.skip (E.blockN (E.joinJ ⟨rfl, rfl, h⟩ ⟨rfl, rfl, rfl, rfl, rfl, trivial⟩ (fun _ hw => hw)))
           ·
            refine L.y rfl (Y.assign rfl) ?_
            refine L.nil (E.thenN (W.condF rfl ?_))
            refine W.seq (W.region (L.y rfl (Y.assign rfl) ?_))
            refine L.nil (E.thenN (W.ret (E.blockR (E.KSR (E.blockR (E.KSR (E.KLR (E.blockR (E.KSR (E.ret1 rfl rfl (fun w1 hw => ?_)))))))))))
            obtain rfl := Option.some.inj h
            exact ⟨_, _, rfl, ⟨rfl, rfl⟩, hw.sel [] (by decide) rfl⟩
         ·
          replace h := iteT h
          refine W.condT rfl ?_
          exact W.skip (E.blockN (E.joinJ ⟨rfl, rfl, h⟩ ⟨rfl, rfl, rfl, rfl, rfl, trivial⟩ (fun _ hw => hw)))
       ·
        rintro _ _ ⟨rfl, rfl, h⟩
        rw [m10_run_Check_K5] at h
        refine W.seq (W.seq (W.region (L.y rfl (Y.fieldP fd30_0 rfl) ?_)))
        refine L.y rfl (Y.loadP (i := 0) ag3 rfl rfl rfl) ?_
        refine L.m (V := fun _ => pt b1 (0 + x4.Tx.toNat * 1)) h rfl (Y.indexAM (l := gl2) Try.underlying59 sz4 rfl rfl) (fun x6 ex6 h => ?_)
        refine L.iteB h rfl (Y.loadAr (q := 1) (row := B) (j := 0) (p := .bool x6) ag4 rfl rfl rfl (fun _ => rfl) (idxA_idx ex6) rfl) (fun c7 h => ?_) (fun c7 h => ?_)
        ·
         refine L.nil (E.thenN (W.condT rfl ?_))
         refine W.seq (W.region (L.y rfl (Y.assign rfl) ?_))
         refine L.nil (E.thenN (W.ret (E.thenR (E.blockR (E.KSR (E.KLR (E.blockR (E.KSR (E.ret1 rfl rfl (fun w1 hw => ?_))))))))))
         obtain rfl := Option.some.inj h
         exact ⟨_, _, rfl, ⟨rfl, rfl⟩, hw.sel [] (by decide) rfl⟩
        ·
         refine L.nil (E.thenN (W.condF rfl ?_))
         refine W.skip (E.thenN (W.region (L.y rfl (Y.fieldP fd30_0 rfl) ?_)))
         refine L.y rfl (Y.loadP (i := 0) ag3 rfl rfl rfl) ?_
         refine L.y rfl (Y.fieldP fd30_1 rfl) ?_
         refine L.y rfl (Y.loadP (i := 0) ag3 rfl rfl rfl) ?_
         refine L.y rfl (Y.geq rfl rfl) ?_
         refine L.m (V := fun _ => pt b1 (0 + x4.Tx.toNat * 1)) h rfl (Y.indexAM (l := gl2) Try.underlying59 sz4 rfl rfl) (fun x8 ex8 h => ?_)
         refine L.storeArM (q := 1) (row := B) (vs := [.bool (decide (3 ≤ x4.Kind))]) (j := 0) (u1 := decide (3 ≤ x4.Kind)) h sz4 rfl rfl rfl rfl rfl (all1 rfl all0) rfl (fun _ => rfl) (idxA_idx ex8) rfl rfl ?_
         intro l9 el9 h
         exact L.nil (E.blockN (E.joinJ ⟨l9, rfl, rfl, h⟩ ⟨rfl, rfl, rfl, rfl, trivial⟩ (fun _ hw => hw.sel [1] (by decide) rfl)))
     ·
      rintro _ _ ⟨gl3, rfl, rfl, h⟩
      rw [m10_run_Check_K3] at h
      refine W.region (L.m (V := fun x3 => .int .i64 x3) h rfl (Y.addM rfl rfl) (fun x3 ex3 h => ?_))
      refine L.y rfl (Y.move rfl) ?_
      exact L.nil (E.againJ ⟨x3, gl3, rfl, rfl, by rw [hg1]; exact h⟩ (Nat.lt_succ_self _) ⟨rfl, rfl, rfl, rfl, trivial⟩ (fun _ hw => hw))
    ·
     refine L.nil (E.thenN (W.seq (W.condF rfl ?_)))
     exact W.exit (E.thenX (E.KLX (E.blockX (E.joinJ ⟨rfl, rfl, h⟩ trivial (fun _ hw => hw.sel [] (by decide) rfl)))))
   ·
    rintro _ _ ⟨rfl, rfl, h⟩
    rw [m10_run_Check_K2] at h
    refine W.seq (W.region (L.y rfl (Y.assign rfl) ?_))
    refine L.nil (E.thenN (W.ret (E.ret1 rfl rfl (fun w1 hw => ?_))))
    obtain rfl := Option.some.inj h
    exact ⟨_, _, rfl, ⟨rfl, rfl⟩, hw⟩
set_option maxRecDepth 100000 in
set_option maxHeartbeats 8000000 in
theorem w14_api_Op (a0 : (List TOp)) (u0 : Value) (w : World) (r : (List TOp)) (h : m14_api_Op a0 = some r) (hA0 : At w u0 3 (a0.map TOp.row)) : Does Try.prog 14 [u0] w fun u m => ∃ v0, u = v0 ∧ m = [.sl v0 30 3 (r.map TOp.row)] := by
  rw [m14_api_Op] at h
  rcases hA0.shape with ⟨rfl, hn⟩ | ⟨ad, cap, rfl, hl, hm⟩
  ·
   obtain rfl : a0 = [] := by simpa using hn
   replace h : some ([] : List TOp) = some r := by simpa [app] using h
   refine body (n := 8) Try.func14 rfl rfl rfl (Cls.refl w) ?_
   refine W.seq (W.region (L.y rfl (Y.assign rfl) ?_))
   refine L.nil (E.thenN (W.seq (W.seq (W.region (L.y rfl (Y.move rfl) ?_)))))
   refine L.y rfl (Y.eqlNil Try.underlying22 rfl rfl) ?_
   refine L.nil (E.thenN (W.condT rfl ?_))
   refine W.seq (W.region (L.y rfl (Y.assign rfl) ?_))
   refine L.nil (E.thenN (W.ret (E.thenR (E.ret1 rfl rfl (fun w1 hw => ?_)))))
   obtain rfl := Option.some.inj h
   exact ⟨_, _, rfl, ⟨_, rfl, rfl⟩, (hw.nilSl 30 3)⟩
  ·
   refine body (n := 8) Try.func14 rfl rfl rfl (Cls.refl w) ?_
   refine W.seq (W.region (L.y rfl (Y.assign rfl) ?_))
   refine L.nil (E.thenN (W.seq (W.seq (W.region (L.y rfl (Y.move rfl) ?_)))))
   refine L.y rfl (Y.eqlNil Try.underlying22 rfl rfl) ?_
   refine L.nil (E.thenN (W.condF rfl ?_))
   refine W.skip (E.thenN (W.seq (W.region (L.lit0 rfl Try.underlying22 eL30 ?_))))
   intro b1
   refine L.y rfl (Y.move rfl) ?_
   refine L.appM (i := 0) (g := TOp.row) (l := []) (more := a0) h rfl Try.underlying22 eL30 rfl rfl rfl (fun w' hw => hA0.cls0 hw) (plain_TOp _) rfl ?_
   intro v2 l3 el3 h
   refine L.y rfl (Y.assign rfl) ?_
   refine L.nil (E.thenN (W.ret (E.ret1 rfl rfl (fun w1 hw => ?_))))
   obtain rfl := Option.some.inj h
   exact ⟨_, _, rfl, ⟨_, rfl, rfl⟩, hw⟩
set_option maxRecDepth 100000 in
set_option maxHeartbeats 8000000 in
theorem w12_api_Op (a0 : (List TOp)) (a1 : (List TOp)) (u0 : Value) (u1 : Value) (w : World) (r : Bool) (h : m12_api_Op a0 a1 = some r) (hA0 : At w u0 3 (a0.map TOp.row)) (hA1 : At w u1 3 (a1.map TOp.row)) : Does Try.prog 12 [u0, u1] w fun u m => u = .bool r ∧ m = [] := by
  rw [m12_api_Op] at h
  refine body (n := 26) Try.func12 rfl rfl rfl (Cls.refl w) ?_
  refine W.seq (W.region (L.y rfl (Y.assign rfl) ?_))
  refine L.nil (E.thenN (W.seqJ (fun gs D => gs = [(0, u0), (1, u1)] ∧ D = Cls w [] [] ∧ m12_api_Op_K1 a0 a1 = some r) ?_ ?_))
  ·
   refine W.seq (W.region (L.y rfl (Y.move rfl) ?_))
   refine L.y rfl (Y.lenM (g := TOp.row) (l := a0) Try.underlying22 rfl (fun w' hw => hA0.cls0 hw)) ?_
   refine L.y rfl (Y.move rfl) ?_
   refine L.y rfl (Y.lenM (g := TOp.row) (l := a1) Try.underlying22 rfl (fun w' hw => hA1.cls0 hw)) ?_
   refine L.ite h rfl (Y.neq rfl rfl) (fun c6 h => ?_) (fun c6 h => ?_)
   ·
    refine L.nil (E.thenN (W.condT rfl ?_))
    refine W.seq (W.region (L.y rfl (Y.assign rfl) ?_))
    refine L.nil (E.thenN (W.ret (E.KSR (E.ret1 rfl rfl (fun w1 hw => ?_)))))
    obtain rfl := Option.some.inj h
    exact ⟨_, _, rfl, ⟨rfl, rfl⟩, hw⟩
   ·
    refine L.nil (E.thenN (W.condF rfl ?_))
    exact W.skip (E.joinJ ⟨rfl, rfl, h⟩ ⟨rfl, rfl, trivial⟩ (fun _ hw => hw))
  ·
   rintro _ _ ⟨rfl, rfl, h⟩
   rw [m12_api_Op_K1] at h
   refine W.seqJ (fun gs D => gs = [] ∧ D = Cls w [] [] ∧ m12_api_Op_K2 = some r) ?_ ?_
   ·
    refine W.seq (W.region (L.y rfl (Y.move rfl) ?_))
    refine L.y rfl (Y.lenM (g := TOp.row) (l := a0) Try.underlying22 rfl (fun w' hw => hA0.cls0 hw)) ?_
    refine L.y rfl (Y.move rfl) ?_
    refine L.nil (E.thenN (W.block (W.loopJ (fun m gs D => ∃ (gx1 : Int), gs = [(0, u0), (1, u1), (12, .int .i64 (a0.length : Int)), (13, .int .i64 gx1)] ∧ D = Cls w [] [] ∧ m12_api_Op_L1 a0 a1 m gx1 = some r) ⟨0, rfl, rfl, h⟩ ⟨rfl, rfl, rfl, rfl, trivial⟩ (fun _ hw => hw) ?_)))
    rintro m _ _ ⟨gx1, rfl, rfl, h⟩
    rcases m with _ | m
    · rw [m12_api_Op_L1] at h; cases h
    rw [m12_api_Op_L1] at h
    generalize hg1 : m12_api_Op_L1 a0 a1 m = go1 at h
    rw [m12_api_Op_L1B] at h
    refine W.seq (W.region (L.ite h rfl (Y.lss rfl rfl) (fun c1 h => ?_) (fun c1 h => ?_)))
    ·
     refine L.nil (E.thenN (W.seq (W.condT rfl ?_)))
     refine W.skip (E.thenN (W.seq (W.block (W.seq (W.region (L.y rfl (Y.move rfl) ?_))))))
     refine L.y rfl (Y.assign rfl) ?_
     refine L.nil (E.thenN (W.seq (W.quietC mixed (by kernel_rfl) (fun _ hw => hw.drew) (fun hC => ?_))))
     refine U.y rfl (Y.move rfl) ?_
     refine U.y rfl (Y.move rfl) ?_
     refine U.m (V := fun _ => el u0 (gx1.toNat * 3)) h rfl (Y.indexM (g := TOp.row) (l := a0) Try.underlying22 sz30 rfl rfl (fun w' hw => hA0.cls0 hw)) (fun x2 ex2 h => ?_)
     refine U.y rfl (Y.loadEN (r := [.int .i64 x2.Tx, .int .i64 x2.Kind, .int .i64 x2.Item]) ag30 sz30 rfl (fun w' hw => hA0.cls0 hw) (idx_map ex2) rfl) ?_
     refine U.y rfl (Y.move rfl) ?_
     refine U.y rfl (Y.move rfl) ?_
     refine U.m (V := fun _ => el u1 (gx1.toNat * 3)) h rfl (Y.indexM (g := TOp.row) (l := a1) Try.underlying22 sz30 rfl rfl (fun w' hw => hA1.cls0 hw)) (fun x3 ex3 h => ?_)
     refine U.y rfl (Y.loadEN (r := [.int .i64 x3.Tx, .int .i64 x3.Kind, .int .i64 x3.Item]) ag30 sz30 rfl (fun w' hw => hA1.cls0 hw) (idx_map ex3) rfl) ?_
     refine U.ite h rfl (Y.neqA (row := TOp.row) (a := x2) (b := x3) eg30 ag30 (sh30 _) (sh30 _) (inj30 _ _) rfl rfl) (fun c4 h => ?_) (fun c4 h => ?_)
     ·
      refine U.nil (E.thenN (W.condT rfl ?_))
      refine W.seq (W.region (L.y rfl (Y.assign rfl) ?_))
      refine L.nil (E.thenN (W.ret (E.blockR (E.thenR (E.KLR (E.blockR (E.KSR (E.ret1 rfl rfl (fun w1 hw => ?_)))))))))
      obtain rfl := Option.some.inj h
      exact ⟨_, _, rfl, ⟨rfl, rfl⟩, hw⟩
     ·
      refine U.nil (E.thenN (W.condF rfl ?_))
      refine W.skip (E.blockN (E.thenN (W.region (L.m (V := fun x5 => .int .i64 x5) h rfl (Y.addM rfl rfl) (fun x5 ex5 h => ?_)))))
      refine L.y rfl (Y.move rfl) ?_
      exact L.nil (E.againJ ⟨x5, rfl, rfl, by rw [hg1]; exact h⟩ (Nat.lt_succ_self _) ⟨rfl, rfl, rfl, rfl, trivial⟩ (fun _ hw => hw))
    ·
     refine L.nil (E.thenN (W.seq (W.condF rfl ?_)))
     exact W.exit (E.thenX (E.KLX (E.blockX (E.joinJ ⟨rfl, rfl, h⟩ trivial (fun _ hw => hw)))))
   ·
    rintro _ _ ⟨rfl, rfl, h⟩
    rw [m12_api_Op_K2] at h
    refine W.seq (W.region (L.y rfl (Y.assign rfl) ?_))
    refine L.nil (E.thenN (W.ret (E.ret1 rfl rfl (fun w1 hw => ?_))))
    obtain rfl := Option.some.inj h
    exact ⟨_, _, rfl, ⟨rfl, rfl⟩, hw⟩
set_option maxRecDepth 100000 in
set_option maxHeartbeats 8000000 in
theorem w28_run_clash (a0 : TOp) (a1 : TOp) (w : World) (r : Bool) (h : m28_run_clash a0 a1 = some r) : Does Try.prog 28 [.agg #[.int .i64 a0.Tx, .int .i64 a0.Kind, .int .i64 a0.Item], .agg #[.int .i64 a1.Tx, .int .i64 a1.Kind, .int .i64 a1.Item]] w fun u m => u = .bool r ∧ m = [] := by
  rw [m28_run_clash] at h
  refine body (n := 37) Try.func28 rfl rfl rfl (Cls.refl w) ?_
  refine W.seq (W.region (L.box rfl rfl ?_))
  intro b1
  refine L.box rfl rfl ?_
  intro b2
  refine L.y rfl (Y.assign rfl) ?_
  refine L.nil (E.thenN (W.seq (W.region (L.cutJ 10 (fun gs D => ∃ (gb1 : Bool), gs = [(2, pt b1 0), (3, pt b2 0), (14, .bool gb1)] ∧ D = Cls w [] [.obj b2 [.int .i64 a1.Tx, .int .i64 a1.Kind, .int .i64 a1.Item] 30, .obj b1 [.int .i64 a0.Tx, .int .i64 a0.Kind, .int .i64 a0.Item] 30] ∧ m28_run_clash_K1 a1 a0 gb1 = some r) ?_ ?_))))
  ·
   refine L.y rfl (Y.fieldP fd30_0 rfl) ?_
   refine L.y rfl (Y.loadP (i := 1) ag3 rfl rfl rfl) ?_
   refine L.y rfl (Y.fieldP fd30_0 rfl) ?_
   refine L.y rfl (Y.loadP (i := 0) ag3 rfl rfl rfl) ?_
   refine L.ite h rfl (Y.neq rfl rfl) (fun c6 h => ?_) (fun c6 h => ?_)
   ·
    refine L.y rfl (Y.move rfl) ?_
    refine L.take rfl (L.y rfl (Y.fieldP fd30_1 rfl) ?_)
    refine L.take rfl (L.y rfl (Y.loadP (i := 1) ag3 rfl rfl rfl) ?_)
    refine L.take rfl (L.ite h rfl (Y.lss rfl rfl) (fun c7 h => ?_) (fun c7 h => ?_))
    ·
     refine L.y rfl (Y.pickT rfl rfl) ?_
     exact L.nil (E.joinJ ⟨true, rfl, rfl, h⟩ ⟨rfl, rfl, rfl, trivial⟩ (fun _ hw => hw))
    ·
     refine L.y rfl (Y.pickT rfl rfl) ?_
     exact L.nil (E.joinJ ⟨false, rfl, rfl, h⟩ ⟨rfl, rfl, rfl, trivial⟩ (fun _ hw => hw))
   ·
    refine L.y rfl (Y.move rfl) ?_
    refine L.pass rfl rfl (by nofun) ?_
    refine L.pass rfl rfl (by nofun) ?_
    refine L.pass rfl rfl (by nofun) ?_
    refine L.y rfl (Y.pickF rfl rfl) ?_
    exact L.nil (E.joinJ ⟨false, rfl, rfl, h⟩ ⟨rfl, rfl, rfl, trivial⟩ (fun _ hw => hw))
  ·
   rintro _ _ ⟨gb1, rfl, rfl, h⟩
   rw [m28_run_clash_K1] at h
   rcases gb1 with _ | _
   ·
    replace h := iteF h
    refine L.y rfl (Y.move rfl) ?_
    refine L.pass rfl rfl (by nofun) ?_
    refine L.pass rfl rfl (by nofun) ?_
    refine L.pass rfl rfl (by nofun) ?_
    refine L.y rfl (Y.pickF rfl rfl) ?_
    refine L.y rfl (Y.move rfl) ?_
    refine L.pass rfl rfl (by nofun) ?_
    refine L.pass rfl rfl (by nofun) ?_
    refine L.pass rfl rfl (by nofun) ?_
    refine L.pass rfl rfl (by nofun) ?_
    refine L.pass rfl rfl (by nofun) ?_
    refine L.y rfl (Y.pickF rfl rfl) ?_
    refine L.y rfl (Y.move rfl) ?_
    refine L.pass rfl rfl (by nofun) ?_
    refine L.pass rfl rfl (by nofun) ?_
    refine L.pass rfl rfl (by nofun) ?_
    refine L.pass rfl rfl (by nofun) ?_
    refine L.pass rfl rfl (by nofun) ?_
    refine L.pass rfl rfl (by nofun) ?_
    refine L.pass rfl rfl (by nofun) ?_
    refine L.pass rfl rfl (by nofun) ?_
    refine L.y rfl (Y.pickF rfl rfl) ?_
    refine L.y rfl (Y.assign rfl) ?_
    refine L.nil (E.thenN (W.ret (E.ret1 rfl rfl (fun w1 hw => ?_))))
    obtain rfl := Option.some.inj h
    exact ⟨_, _, rfl, ⟨rfl, rfl⟩, hw.sel [] (by decide) rfl⟩
   ·
    replace h := iteT h
    refine L.cutJ 12 (fun gs D => ∃ (gb2 : Bool), gs = [(2, pt b1 0), (3, pt b2 0), (26, .bool gb2)] ∧ D = Cls w [] [.obj b2 [.int .i64 a1.Tx, .int .i64 a1.Kind, .int .i64 a1.Item] 30, .obj b1 [.int .i64 a0.Tx, .int .i64 a0.Kind, .int .i64 a0.Item] 30] ∧ m28_run_clash_K2 a0 a1 gb2 = some r) ?_ ?_
    ·
     refine L.y rfl (Y.move rfl) ?_
     refine L.take rfl (L.y rfl (Y.fieldP fd30_1 rfl) ?_)
     refine L.take rfl (L.y rfl (Y.loadP (i := 0) ag3 rfl rfl rfl) ?_)
     refine L.take rfl (L.ite h rfl (Y.lss rfl rfl) (fun c4 h => ?_) (fun c4 h => ?_))
     ·
      refine L.y rfl (Y.pickT rfl rfl) ?_
      refine L.y rfl (Y.move rfl) ?_
      refine L.take rfl (L.y rfl (Y.fieldP fd30_2 rfl) ?_)
      refine L.take rfl (L.y rfl (Y.loadP (i := 1) ag3 rfl rfl rfl) ?_)
      refine L.take rfl (L.y rfl (Y.fieldP fd30_2 rfl) ?_)
      refine L.take rfl (L.y rfl (Y.loadP (i := 0) ag3 rfl rfl rfl) ?_)
      refine L.take rfl (L.ite h rfl (Y.eql rfl rfl) (fun c5 h => ?_) (fun c5 h => ?_))
      ·
       refine L.y rfl (Y.pickT rfl rfl) ?_
       exact L.nil (E.joinJ ⟨true, rfl, rfl, h⟩ ⟨rfl, rfl, rfl, trivial⟩ (fun _ hw => hw))
      ·
       refine L.y rfl (Y.pickT rfl rfl) ?_
       exact L.nil (E.joinJ ⟨false, rfl, rfl, h⟩ ⟨rfl, rfl, rfl, trivial⟩ (fun _ hw => hw))
     ·
      refine L.y rfl (Y.pickT rfl rfl) ?_
      refine L.y rfl (Y.move rfl) ?_
      refine L.pass rfl rfl (by nofun) ?_
      refine L.pass rfl rfl (by nofun) ?_
      refine L.pass rfl rfl (by nofun) ?_
      refine L.pass rfl rfl (by nofun) ?_
      refine L.pass rfl rfl (by nofun) ?_
      refine L.y rfl (Y.pickF rfl rfl) ?_
      exact L.nil (E.joinJ ⟨false, rfl, rfl, h⟩ ⟨rfl, rfl, rfl, trivial⟩ (fun _ hw => hw))
    ·
     rintro _ _ ⟨gb2, rfl, rfl, h⟩
     rw [m28_run_clash_K2] at h
     rcases gb2 with _ | _
     ·
      replace h := iteF h
      refine L.y rfl (Y.move rfl) ?_
      refine L.pass rfl rfl (by nofun) ?_
      refine L.pass rfl rfl (by nofun) ?_
      refine L.pass rfl rfl (by nofun) ?_
      refine L.pass rfl rfl (by nofun) ?_
      refine L.pass rfl rfl (by nofun) ?_
      refine L.pass rfl rfl (by nofun) ?_
      refine L.pass rfl rfl (by nofun) ?_
      refine L.pass rfl rfl (by nofun) ?_
      refine L.y rfl (Y.pickF rfl rfl) ?_
      refine L.y rfl (Y.assign rfl) ?_
      refine L.nil (E.thenN (W.ret (E.ret1 rfl rfl (fun w1 hw => ?_))))
      obtain rfl := Option.some.inj h
      exact ⟨_, _, rfl, ⟨rfl, rfl⟩, hw.sel [] (by decide) rfl⟩
     ·
      replace h := iteT h
      refine L.y rfl (Y.move rfl) ?_
      refine L.take rfl (L.y rfl (Y.fieldP fd30_1 rfl) ?_)
      refine L.take rfl (L.y rfl (Y.loadP (i := 1) ag3 rfl rfl rfl) ?_)
      refine L.take rfl (L.ite h rfl (Y.eql rfl rfl) (fun c3 h => ?_) (fun c3 h => ?_))
      ·
       refine L.take rfl (L.y rfl (Y.move rfl) ?_)
       refine L.pass rfl rfl (by nofun) ?_
       refine L.pass rfl rfl (by nofun) ?_
       refine L.pass rfl rfl (by nofun) ?_
       refine L.take rfl (L.y rfl (Y.pickT rfl rfl) ?_)
       refine L.y rfl (Y.pickT rfl rfl) ?_
       refine L.y rfl (Y.assign rfl) ?_
       refine L.nil (E.thenN (W.ret (E.ret1 rfl rfl (fun w1 hw => ?_))))
       obtain rfl := Option.some.inj h
       exact ⟨_, _, rfl, ⟨rfl, rfl⟩, hw.sel [] (by decide) rfl⟩
      ·
       refine L.take rfl (L.y rfl (Y.move rfl) ?_)
       refine L.take rfl (L.y rfl (Y.fieldP fd30_1 rfl) ?_)
       refine L.take rfl (L.y rfl (Y.loadP (i := 0) ag3 rfl rfl rfl) ?_)
       refine L.take rfl (L.y rfl (Y.eql rfl rfl) ?_)
       refine L.take rfl (L.y rfl (Y.pickF rfl rfl) ?_)
       refine L.y rfl (Y.pickT rfl rfl) ?_
       refine L.y rfl (Y.assign rfl) ?_
       refine L.nil (E.thenN (W.ret (E.ret1 rfl rfl (fun w1 hw => ?_))))
       obtain rfl := Option.some.inj h
       exact ⟨_, _, rfl, ⟨rfl, rfl⟩, hw.sel [] (by decide) rfl⟩
set_option maxRecDepth 100000 in
set_option maxHeartbeats 8000000 in
theorem w54_cmp_isNaN_int (a0 : Int) (w : World) (r : Bool) (h : m54_cmp_isNaN_int a0 = some r) : Does Try.prog 54 [.int .i64 a0] w fun u m => u = .bool r ∧ m = [] := by
  rw [m54_cmp_isNaN_int] at h
  refine body (n := 6) Try.func54 rfl rfl rfl (Cls.refl w) ?_
  refine W.seq (W.region (L.y rfl (Y.assign rfl) ?_))
  refine L.nil (E.thenN (W.seq (W.region (L.y rfl (Y.move rfl) ?_))))
  refine L.y rfl (Y.move rfl) ?_
  refine L.y rfl (Y.neq rfl rfl) ?_
  refine L.y rfl (Y.assign rfl) ?_
  refine L.nil (E.thenN (W.ret (E.ret1 rfl rfl (fun w1 hw => ?_))))
  obtain rfl := Option.some.inj h
  exact ⟨_, _, rfl, ⟨rfl, rfl⟩, hw⟩
set_option maxRecDepth 100000 in
set_option maxHeartbeats 8000000 in
theorem w40_cmp_Compare_int (a0 : Int) (a1 : Int) (w : World) (r : Int) (h : m40_cmp_Compare_int a0 a1 = some r) : Does Try.prog 40 [.int .i64 a0, .int .i64 a1] w fun u m => u = .int .i64 r ∧ m = [] := by
  rw [m40_cmp_Compare_int] at h
  refine body (n := 20) Try.func40 rfl rfl rfl (Cls.refl w) ?_
  refine W.seq (W.region (L.y rfl (Y.assign rfl) ?_))
  refine L.nil (E.thenN (W.seqJ (fun gs D => ∃ (gb1 : Bool), gs = [(0, .int .i64 a0), (1, .int .i64 a1), (5, .bool gb1)] ∧ D = Cls w [] [] ∧ m40_cmp_Compare_int_K1 a1 a0 gb1 = some r) ?_ ?_))
  ·
   refine W.region (L.y rfl (Y.move rfl) ?_)
   obtain ⟨b7, e8, h⟩ := bind1S h
   refine L.y rfl (Y.does en54 rfl (fun w' hw => (w54_cmp_isNaN_int a0 w' _ e8).mono (fun _ _ h => h.1))) ?_
   rcases b7 with _ | _
   ·
    replace h := iteF h
    refine L.y rfl (Y.assign rfl) ?_
    exact L.nil (E.joinJ ⟨false, rfl, rfl, h⟩ ⟨rfl, rfl, rfl, trivial⟩ (fun _ hw => hw))
   ·
    replace h := iteT h
    refine L.y rfl (Y.assign rfl) ?_
    exact L.nil (E.joinJ ⟨true, rfl, rfl, h⟩ ⟨rfl, rfl, rfl, trivial⟩ (fun _ hw => hw))
  ·
   rintro _ _ ⟨gb1, rfl, rfl, h⟩
   rw [m40_cmp_Compare_int_K1] at h
   rcases gb1 with _ | _
   ·
    replace h := iteF h
    refine W.seq (W.region (L.y rfl (Y.move rfl) ?_))
    obtain ⟨b1, e2, h⟩ := bind1S h
    refine L.y rfl (Y.does en54 rfl (fun w' hw => (w54_cmp_isNaN_int a1 w' _ e2).mono (fun _ _ h => h.1))) ?_
    rcases b1 with _ | _
    ·
     replace h := iteF h
     refine L.y rfl (Y.assign rfl) ?_
     refine L.nil (E.thenN (W.seq (W.seq (W.region (L.y rfl (Y.move rfl) ?_)))))
     refine L.nil (E.thenN (W.condF rfl ?_))
     refine W.skip (E.thenN (W.seq (W.seq (W.region (L.y rfl (Y.move rfl) ?_)))))
     refine L.nil (E.thenN (W.condF rfl ?_))
     refine W.skip (E.thenN (W.seq (W.seq (W.region (L.y rfl (Y.move rfl) ?_)))))
     refine L.y rfl (Y.move rfl) ?_
     refine L.ite h rfl (Y.lss rfl rfl) (fun c3 h => ?_) (fun c3 h => ?_)
     ·
      refine L.nil (E.thenN (W.condT rfl ?_))
      refine W.seq (W.region (L.y rfl (Y.assign rfl) ?_))
      refine L.nil (E.thenN (W.ret (E.thenR (E.ret1 rfl rfl (fun w1 hw => ?_)))))
      obtain rfl := Option.some.inj h
      exact ⟨_, _, rfl, ⟨rfl, rfl⟩, hw⟩
     ·
      refine L.nil (E.thenN (W.condF rfl ?_))
      refine W.skip (E.thenN (W.seq (W.seq (W.region (L.y rfl (Y.move rfl) ?_)))))
      refine L.y rfl (Y.move rfl) ?_
      refine L.ite h rfl (Y.gtr rfl rfl) (fun c4 h => ?_) (fun c4 h => ?_)
      ·
       refine L.nil (E.thenN (W.condT rfl ?_))
       refine W.seq (W.region (L.y rfl (Y.assign rfl) ?_))
       refine L.nil (E.thenN (W.ret (E.thenR (E.ret1 rfl rfl (fun w1 hw => ?_)))))
       obtain rfl := Option.some.inj h
       exact ⟨_, _, rfl, ⟨rfl, rfl⟩, hw⟩
      ·
       refine L.nil (E.thenN (W.condF rfl ?_))
       refine W.skip (E.thenN (W.seq (W.region (L.y rfl (Y.assign rfl) ?_))))
       refine L.nil (E.thenN (W.ret (E.ret1 rfl rfl (fun w1 hw => ?_))))
       obtain rfl := Option.some.inj h
       exact ⟨_, _, rfl, ⟨rfl, rfl⟩, hw⟩
    ·
     replace h := iteT h
     refine L.y rfl (Y.assign rfl) ?_
     refine L.nil (E.thenN (W.seq (W.seq (W.region (L.y rfl (Y.move rfl) ?_)))))
     refine L.nil (E.thenN (W.condF rfl ?_))
     refine W.skip (E.thenN (W.seq (W.seq (W.region (L.y rfl (Y.move rfl) ?_)))))
     refine L.nil (E.thenN (W.condT rfl ?_))
     refine W.seq (W.region (L.y rfl (Y.assign rfl) ?_))
     refine L.nil (E.thenN (W.ret (E.thenR (E.ret1 rfl rfl (fun w1 hw => ?_)))))
     obtain rfl := Option.some.inj h
     exact ⟨_, _, rfl, ⟨rfl, rfl⟩, hw⟩
   ·
    replace h := iteT h
    refine W.seq (W.region (L.y rfl (Y.move rfl) ?_))
    obtain ⟨b5, e6, h⟩ := bind1S h
    refine L.y rfl (Y.does en54 rfl (fun w' hw => (w54_cmp_isNaN_int a1 w' _ e6).mono (fun _ _ h => h.1))) ?_
    rcases b5 with _ | _
    ·
     replace h := iteF h
     refine L.y rfl (Y.assign rfl) ?_
     refine L.nil (E.thenN (W.seq (W.seq (W.region (L.y rfl (Y.move rfl) ?_)))))
     refine L.nil (E.thenN (W.condT rfl ?_))
     refine W.seq (W.seq (W.region (L.y rfl (Y.move rfl) ?_)))
     refine L.nil (E.thenN (W.condF rfl ?_))
     refine W.skip (E.thenN (W.seq (W.region (L.y rfl (Y.assign rfl) ?_))))
     refine L.nil (E.thenN (W.ret (E.thenR (E.ret1 rfl rfl (fun w1 hw => ?_)))))
     obtain rfl := Option.some.inj h
     exact ⟨_, _, rfl, ⟨rfl, rfl⟩, hw⟩
    ·
     replace h := iteT h
     refine L.y rfl (Y.assign rfl) ?_
     refine L.nil (E.thenN (W.seq (W.seq (W.region (L.y rfl (Y.move rfl) ?_)))))
     refine L.nil (E.thenN (W.condT rfl ?_))
     refine W.seq (W.seq (W.region (L.y rfl (Y.move rfl) ?_)))
     refine L.nil (E.thenN (W.condT rfl ?_))
     refine W.seq (W.region (L.y rfl (Y.assign rfl) ?_))
     refine L.nil (E.thenN (W.ret (E.thenR (E.thenR (E.ret1 rfl rfl (fun w1 hw => ?_))))))
     obtain rfl := Option.some.inj h
     exact ⟨_, _, rfl, ⟨rfl, rfl⟩, hw⟩
set_option maxRecDepth 100000 in
set_option maxHeartbeats 8000000 in
theorem w31_slices_Compare_int (a0 : (List Int)) (a1 : (List Int)) (u0 : Value) (u1 : Value) (w : World) (r : Int) (h : m31_slices_Compare_int a0 a1 = some r) (hA0 : At w u0 1 (a0.map I)) (hA1 : At w u1 1 (a1.map I)) : Does Try.prog 31 [u0, u1] w fun u m => u = .int .i64 r ∧ m = [] := by
  rw [m31_slices_Compare_int] at h
  refine body (n := 36) Try.func31 rfl rfl rfl (Cls.refl w) ?_
  refine W.seq (W.region (L.y rfl (Y.assign rfl) ?_))
  refine L.nil (E.thenN (W.seqJ (fun gs D => gs = [(0, u0), (1, u1)] ∧ D = Cls w [] [] ∧ m31_slices_Compare_int_K1 a0 a1 = some r) ?_ ?_))
  ·
   refine W.seq (W.region (L.y rfl (Y.move rfl) ?_))
   refine L.y rfl (Y.lenM (g := I) (l := a0) Try.underlying62 rfl (fun w' hw => hA0.cls0 hw)) ?_
   refine L.y rfl (Y.move rfl) ?_
   refine L.nil (E.thenN (W.block (W.loopJ (fun m gs D => ∃ (gx1 : Int), gs = [(0, u0), (1, u1), (9, u0), (10, .int .i64 (a0.length : Int)), (11, .int .i64 gx1)] ∧ D = Cls w [] [] ∧ m31_slices_Compare_int_L1 a0 a1 m gx1 = some r) ⟨0, rfl, rfl, h⟩ ⟨rfl, rfl, rfl, rfl, rfl, trivial⟩ (fun _ hw => hw) ?_)))
   rintro m _ _ ⟨gx1, rfl, rfl, h⟩
   rcases m with _ | m
   · rw [m31_slices_Compare_int_L1] at h; cases h
   rw [m31_slices_Compare_int_L1] at h
   generalize hg1 : m31_slices_Compare_int_L1 a0 a1 m = go1 at h
   rw [m31_slices_Compare_int_L1B] at h
   refine W.seq (W.region (L.ite h rfl (Y.lss rfl rfl) (fun c2 h => ?_) (fun c2 h => ?_)))
   ·
    refine L.nil (E.thenN (W.seq (W.condT rfl ?_)))
    refine W.skip (E.thenN (W.seq (W.block (W.seq (W.region (L.y rfl (Y.move rfl) ?_))))))
    refine L.m (V := fun _ => el u0 (gx1.toNat * 1)) h rfl (Y.indexM (g := I) (l := a0) Try.underlying62 sz3 rfl rfl (fun w' hw => hA0.cls0 hw)) (fun x3 ex3 h => ?_)
    refine L.y rfl (Y.loadE1 (u := .int .i64 x3) ag3 rfl (fun w' hw => hA0.cls0 hw) (idx_map ex3)) ?_
    refine L.y rfl (Y.assign rfl) ?_
    refine L.y rfl (Y.assign rfl) ?_
    refine L.nil (E.thenN (W.seqJ (fun gs D => gs = [(0, u0), (1, u1), (5, .int .i64 gx1), (6, .int .i64 x3), (9, u0), (10, .int .i64 (a0.length : Int)), (11, .int .i64 gx1)] ∧ D = Cls w [] [] ∧ m31_slices_Compare_int_K2 a1 gx1 x3 go1 = some r) ?_ ?_))
    ·
     refine W.seq (W.region (L.y rfl (Y.move rfl) ?_))
     refine L.y rfl (Y.move rfl) ?_
     refine L.y rfl (Y.lenM (g := I) (l := a1) Try.underlying62 rfl (fun w' hw => hA1.cls0 hw)) ?_
     refine L.ite h rfl (Y.geq rfl rfl) (fun c9 h => ?_) (fun c9 h => ?_)
     ·
      refine L.nil (E.thenN (W.condT rfl ?_))
      refine W.seq (W.region (L.y rfl (Y.assign rfl) ?_))
      refine L.nil (E.thenN (W.ret (E.KSR (E.blockR (E.thenR (E.KLR (E.blockR (E.KSR (E.ret1 rfl rfl (fun w1 hw => ?_))))))))))
      obtain rfl := Option.some.inj h
      exact ⟨_, _, rfl, ⟨rfl, rfl⟩, hw⟩
     ·
      refine L.nil (E.thenN (W.condF rfl ?_))
      exact W.skip (E.joinJ ⟨rfl, rfl, h⟩ ⟨rfl, rfl, rfl, rfl, rfl, rfl, rfl, trivial⟩ (fun _ hw => hw))
    ·
     rintro _ _ ⟨rfl, rfl, h⟩
     rw [m31_slices_Compare_int_K2] at h
     refine W.seq (W.region (L.y rfl (Y.move rfl) ?_))
     refine L.y rfl (Y.move rfl) ?_
     refine L.m (V := fun _ => el u1 (gx1.toNat * 1)) h rfl (Y.indexM (g := I) (l := a1) Try.underlying62 sz3 rfl rfl (fun w' hw => hA1.cls0 hw)) (fun x4 ex4 h => ?_)
     refine L.y rfl (Y.loadE1 (u := .int .i64 x4) ag3 rfl (fun w' hw => hA1.cls0 hw) (idx_map ex4)) ?_
     refine L.y rfl (Y.assign rfl) ?_
     refine L.nil (E.thenN (W.seq (W.region (L.y rfl (Y.move rfl) ?_))))
     refine L.y rfl (Y.move rfl) ?_
     obtain ⟨x5, e6, h⟩ := bind1S h
     refine L.y rfl (Y.does en40 rfl (fun w' hw => (w40_cmp_Compare_int x3 x4 w' _ e6).mono (fun _ _ h => h.1))) ?_
     refine L.y rfl (Y.assign rfl) ?_
     refine L.nil (E.thenN (W.seq (W.region (L.y rfl (Y.move rfl) ?_))))
     refine L.ite h rfl (Y.neq rfl rfl) (fun c7 h => ?_) (fun c7 h => ?_)
     ·
      refine L.nil (E.thenN (W.condT rfl ?_))
      refine W.seq (W.region (L.y rfl (Y.move rfl) ?_))
      refine L.y rfl (Y.assign rfl) ?_
      refine L.nil (E.thenN (W.ret (E.blockR (E.thenR (E.KLR (E.blockR (E.KSR (E.ret1 rfl rfl (fun w1 hw => ?_)))))))))
      obtain rfl := Option.some.inj h
      exact ⟨_, _, rfl, ⟨rfl, rfl⟩, hw⟩
     ·
      refine L.nil (E.thenN (W.condF rfl ?_))
      refine W.skip (E.blockN (E.thenN (W.region (L.m (V := fun x8 => .int .i64 x8) h rfl (Y.addM rfl rfl) (fun x8 ex8 h => ?_)))))
      refine L.y rfl (Y.move rfl) ?_
      exact L.nil (E.againJ ⟨x8, rfl, rfl, by rw [hg1]; exact h⟩ (Nat.lt_succ_self _) ⟨rfl, rfl, rfl, rfl, rfl, trivial⟩ (fun _ hw => hw))
   ·
    refine L.nil (E.thenN (W.seq (W.condF rfl ?_)))
    exact W.exit (E.thenX (E.KLX (E.blockX (E.joinJ ⟨rfl, rfl, h⟩ ⟨rfl, rfl, trivial⟩ (fun _ hw => hw)))))
  ·
   rintro _ _ ⟨rfl, rfl, h⟩
   rw [m31_slices_Compare_int_K1] at h
   refine W.seq (W.seq (W.region (L.y rfl (Y.move rfl) ?_)))
   refine L.y rfl (Y.lenM (g := I) (l := a0) Try.underlying62 rfl (fun w' hw => hA0.cls0 hw)) ?_
   refine L.y rfl (Y.move rfl) ?_
   refine L.y rfl (Y.lenM (g := I) (l := a1) Try.underlying62 rfl (fun w' hw => hA1.cls0 hw)) ?_
   refine L.ite h rfl (Y.lss rfl rfl) (fun c1 h => ?_) (fun c1 h => ?_)
   ·
    refine L.nil (E.thenN (W.condT rfl ?_))
    refine W.seq (W.region (L.y rfl (Y.assign rfl) ?_))
    refine L.nil (E.thenN (W.ret (E.thenR (E.ret1 rfl rfl (fun w1 hw => ?_)))))
    obtain rfl := Option.some.inj h
    exact ⟨_, _, rfl, ⟨rfl, rfl⟩, hw⟩
   ·
    refine L.nil (E.thenN (W.condF rfl ?_))
    refine W.skip (E.thenN (W.seq (W.region (L.y rfl (Y.assign rfl) ?_))))
    refine L.nil (E.thenN (W.ret (E.ret1 rfl rfl (fun w1 hw => ?_))))
    obtain rfl := Option.some.inj h
    exact ⟨_, _, rfl, ⟨rfl, rfl⟩, hw⟩
set_option maxRecDepth 100000 in
set_option maxHeartbeats 8000000 in
theorem w30_run_pairs_1 (a0 : Tpair) (a1 : Tpair) (w : World) (r : Int) (h : m30_run_pairs_1 a0 a1 = some r) : Does Try.prog 30 [.agg #[.int .i64 a0.a_, .int .i64 a0.i_, .int .i64 a0.b_, .int .i64 a0.k_], .agg #[.int .i64 a1.a_, .int .i64 a1.i_, .int .i64 a1.b_, .int .i64 a1.k_]] w fun u m => u = .int .i64 r ∧ m = [] := by
  rw [m30_run_pairs_1] at h
  refine body (n := 24) Try.func30 rfl rfl rfl (Cls.refl w) ?_
  refine W.seq (W.region (L.box rfl rfl ?_))
  intro b1
  refine L.box rfl rfl ?_
  intro b2
  refine L.y rfl (Y.assign rfl) ?_
  refine L.nil (E.thenN (W.seq (W.region (L.y rfl (Y.fieldP fd37_0 rfl) ?_))))
  refine L.y rfl (Y.loadP (i := 1) ag3 rfl rfl rfl) ?_
  refine L.y rfl (Y.fieldP fd37_1 rfl) ?_
  refine L.y rfl (Y.loadP (i := 1) ag3 rfl rfl rfl) ?_
  refine L.y rfl (Y.fieldP fd37_2 rfl) ?_
  refine L.y rfl (Y.loadP (i := 1) ag3 rfl rfl rfl) ?_
  refine L.y rfl (Y.fieldP fd37_3 rfl) ?_
  refine L.y rfl (Y.loadP (i := 1) ag3 rfl rfl rfl) ?_
  refine L.lit (xs := [.tmp 6, .tmp 8, .tmp 10, .tmp 12]) rfl Try.underlying62 eL3 rfl rfl rfl rfl (by simp [Value.cells, st]) ?_
  intro b3
  refine L.y rfl (Y.fieldP fd37_0 rfl) ?_
  refine L.y rfl (Y.loadP (i := 1) ag3 rfl rfl rfl) ?_
  refine L.y rfl (Y.fieldP fd37_1 rfl) ?_
  refine L.y rfl (Y.loadP (i := 1) ag3 rfl rfl rfl) ?_
  refine L.y rfl (Y.fieldP fd37_2 rfl) ?_
  refine L.y rfl (Y.loadP (i := 1) ag3 rfl rfl rfl) ?_
  refine L.y rfl (Y.fieldP fd37_3 rfl) ?_
  refine L.y rfl (Y.loadP (i := 1) ag3 rfl rfl rfl) ?_
  refine L.lit (xs := [.tmp 15, .tmp 17, .tmp 19, .tmp 21]) rfl Try.underlying62 eL3 rfl rfl rfl rfl (by simp [Value.cells, st]) ?_
  intro b4
  obtain ⟨x5, e6, h⟩ := bind1S h
  refine L.y rfl (Y.does en31 rfl (fun w' hw => (w31_slices_Compare_int ([a0.a_, a0.i_, a0.b_, a0.k_]) ([a1.a_, a1.i_, a1.b_, a1.k_]) (sv b3 4) (sv b4 4) w' _ e6 (As.at_ (hw.get (i := 1) rfl)) (As.at_ (hw.get (i := 0) rfl))).mono (fun _ _ h => h.1))) ?_
  refine L.y rfl (Y.assign rfl) ?_
  refine L.nil (E.thenN (W.ret (E.ret1 rfl rfl (fun w1 hw => ?_))))
  obtain rfl := Option.some.inj h
  exact ⟨_, _, rfl, ⟨rfl, rfl⟩, hw.sel [] (by decide) rfl⟩
set_option maxRecDepth 100000 in
set_option maxHeartbeats 8000000 in
theorem w16_run_pairs (a0 : (List TOp)) (u0 : Value) (w : World) (r : (List Tpair)) (h : m16_run_pairs a0 = some r) (hA0 : At w u0 3 (a0.map TOp.row)) : Does Try.prog 16 [u0] w fun u m => ∃ v0, u = v0 ∧ m = [.sl v0 37 4 (r.map Tpair.row)] := by
  rw [m16_run_pairs] at h
  refine body (n := 79) Try.func16 rfl rfl rfl (Cls.refl w) ?_
  refine W.seq (W.region (L.y rfl (Y.assign rfl) ?_))
  refine L.nil (E.thenN (W.seq (W.region (L.alloc rfl ze61 ?_))))
  intro b1
  refine L.to (D := Cls w [] [.obj b1 (((List.replicate 12 (0 : Int)).map I).flatten) 61]) (fun _ hw => by first | exact hw | simpa [I, B, SR] using hw) ?_
  refine L.nil (E.thenN (W.seq (W.region (L.y rfl (Y.move rfl) ?_))))
  refine L.y rfl (Y.lenM (g := TOp.row) (l := a0) Try.underlying22 rfl (fun w' hw => hA0.cls0 hw)) ?_
  obtain ⟨l2, el2, h⟩ := bind1S h
  refine L.makeE (row := I) (z0 := 0) el2 rfl Try.underlying62 eL3 ze3 rfl rfl rfl ?_
  intro b3
  refine L.y rfl (Y.assign rfl) ?_
  refine L.nil (E.thenN (W.seqJ (fun gs D => ∃ (gl1 : (List Int)), gs = [(0, u0), (4, (sv b3 (a0.length : Int).toNat))] ∧ D = Cls w [] [.sl (sv b3 (a0.length : Int).toNat) 3 1 (gl1.map I)] ∧ m16_run_pairs_K1 a0 gl1 = some r) ?_ ?_))
  ·
   refine W.seq (W.region (L.y rfl (Y.move rfl) ?_))
   refine L.y rfl (Y.lenM (g := TOp.row) (l := a0) Try.underlying22 rfl (fun w' hw => hA0.cls0 hw)) ?_
   refine L.y rfl (Y.move rfl) ?_
   refine L.nil (E.thenN (W.block (W.loopJ (fun m gs D => ∃ (gl12 : (List Int)) (gx13 : Int) (gl14 : (List Int)), gs = [(0, u0), (3, pt b1 0), (4, (sv b3 (a0.length : Int).toNat)), (14, u0), (15, .int .i64 (a0.length : Int)), (16, .int .i64 gx13)] ∧ D = Cls w [] [.obj b1 ((gl14.map I).flatten) 61, .sl (sv b3 (a0.length : Int).toNat) 3 1 (gl12.map I)] ∧ m16_run_pairs_L3 a0 m gl12 gx13 gl14 = some r) ⟨l2, 0, (List.replicate 12 (0 : Int)), rfl, rfl, h⟩ ⟨rfl, rfl, rfl, rfl, rfl, rfl, trivial⟩ (fun _ hw => hw.sel [1, 0] (by decide) rfl) ?_)))
   rintro m _ _ ⟨gl12, gx13, gl14, rfl, rfl, h⟩
   rcases m with _ | m
   · rw [m16_run_pairs_L3] at h; cases h
   rw [m16_run_pairs_L3] at h
   generalize hg3 : m16_run_pairs_L3 a0 m = go3 at h
   rw [m16_run_pairs_L3B] at h
   refine W.seq (W.region (L.ite h rfl (Y.lss rfl rfl) (fun c28 h => ?_) (fun c28 h => ?_)))
   ·
    refine L.nil (E.thenN (W.seq (W.condT rfl ?_)))
    refine W.skip (E.thenN (W.seq (W.block (W.seq (W.region (L.y rfl (Y.move rfl) ?_))))))
    refine L.m (V := fun _ => el u0 (gx13.toNat * 3)) h rfl (Y.indexM (g := TOp.row) (l := a0) Try.underlying22 sz30 rfl rfl (fun w' hw => hA0.cls0 hw)) (fun x29 ex29 h => ?_)
    refine L.y rfl (Y.loadEN (r := [.int .i64 x29.Tx, .int .i64 x29.Kind, .int .i64 x29.Item]) ag30 sz30 rfl (fun w' hw => hA0.cls0 hw) (idx_map ex29) rfl) ?_
    refine L.alloc rfl ze30 ?_
    intro b30
    refine L.y rfl (Y.assign rfl) ?_
    refine L.store (i := 0) (vs := [.int .i64 x29.Tx, .int .i64 x29.Kind, .int .i64 x29.Item]) sz30 rfl rfl rfl rfl (by simp [Value.oneCell', Value.cells, st, pt, el]) rfl (Nat.le_of_ble_eq_true rfl) ?_
    refine L.nil (E.thenN (W.seq (W.region (L.y rfl (Y.move rfl) ?_))))
    refine L.y rfl (Y.move rfl) ?_
    refine L.y rfl (Y.fieldP fd30_0 rfl) ?_
    refine L.y rfl (Y.loadP (i := 0) ag3 rfl rfl rfl) ?_
    refine L.m (V := fun _ => pt b1 (0 + x29.Tx.toNat * 1)) h rfl (Y.indexAM (l := gl14) Try.underlying61 sz3 rfl rfl) (fun x31 ex31 h => ?_)
    refine L.y rfl (Y.loadAr (q := 1) (row := I) (j := 0) (p := .int .i64 x31) ag3 rfl rfl rfl (fun _ => rfl) (idxA_idx ex31) rfl) ?_
    refine L.m (V := fun _ => el (sv b3 (a0.length : Int).toNat) (gx13.toNat * 1)) h rfl (Y.indexM (g := I) (l := gl12) Try.underlying62 sz3 rfl rfl (fun w hw => As.at_ (hw.get (i := 2) rfl))) (fun x32 ex32 h => ?_)
    refine L.storeSlM (q := 2) (row := I) (vs := [.int .i64 x31]) (j := 0) (u1 := x31) h sz3 rfl rfl rfl rfl rfl (all1 rfl all0) rfl ex32 rfl rfl ?_
    intro l33 el33 h
    refine L.nil (E.thenN (W.region (L.y rfl (Y.fieldP fd30_0 rfl) ?_)))
    refine L.y rfl (Y.loadP (i := 0) ag3 rfl rfl rfl) ?_
    refine L.m (V := fun _ => pt b1 (0 + x29.Tx.toNat * 1)) h rfl (Y.indexAM (l := gl14) Try.underlying61 sz3 rfl rfl) (fun x34 ex34 h => ?_)
    refine L.y rfl (Y.loadAr (q := 1) (row := I) (j := 0) (p := .int .i64 x34) ag3 rfl rfl rfl (fun _ => rfl) (idxA_idx ex34) rfl) ?_
    refine L.m (V := fun x35 => .int .i64 x35) h rfl (Y.addM rfl rfl) (fun x35 ex35 h => ?_)
    refine L.m (V := fun _ => pt b1 (0 + x29.Tx.toNat * 1)) h rfl (Y.indexAM (l := gl14) Try.underlying61 sz3 rfl rfl) (fun x36 ex36 h => ?_)
    refine L.storeArM (q := 1) (row := I) (vs := [.int .i64 x35]) (j := 0) (u1 := x35) h sz3 rfl rfl rfl rfl rfl (all1 rfl all0) rfl (fun _ => rfl) (idxA_idx ex36) rfl rfl ?_
    intro l37 el37 h
    refine L.nil (E.blockN (E.thenN (W.region (L.m (V := fun x38 => .int .i64 x38) h rfl (Y.addM rfl rfl) (fun x38 ex38 h => ?_)))))
    refine L.y rfl (Y.move rfl) ?_
    exact L.nil (E.againJ ⟨l33, x38, l37, rfl, rfl, by rw [hg3]; exact h⟩ (Nat.lt_succ_self _) ⟨rfl, rfl, rfl, rfl, rfl, rfl, trivial⟩ (fun _ hw => hw.sel [1, 2] (by decide) rfl))
   ·
    refine L.nil (E.thenN (W.seq (W.condF rfl ?_)))
    exact W.exit (E.thenX (E.KLX (E.blockX (E.joinJ ⟨gl12, rfl, rfl, h⟩ ⟨rfl, rfl, trivial⟩ (fun _ hw => hw.sel [1] (by decide) rfl)))))
  ·
   rintro _ _ ⟨gl1, rfl, rfl, h⟩
   rw [m16_run_pairs_K1] at h
   refine W.seq (W.region (L.y rfl (Y.assign rfl) ?_))
   refine L.nil (E.thenN (W.seqJ (fun gs D => ∃ (gv2 : Value) (gl3 : (List Tpair)), gs = [(7, gv2)] ∧ D = Cls w [] [.sl gv2 37 4 (gl3.map Tpair.row)] ∧ m16_run_pairs_K2 gl3 = some r) ?_ ?_))
   ·
    refine W.seq (W.region (L.y rfl (Y.move rfl) ?_))
    refine L.y rfl (Y.lenM (g := TOp.row) (l := a0) Try.underlying22 rfl (fun w' hw => hA0.cls0 hw)) ?_
    refine L.y rfl (Y.move rfl) ?_
    refine L.nil (E.thenN (W.block (W.nilSl 37 4 ?_)))
    refine W.loopJ (fun m gs D => ∃ (gv4 : Value) (gl5 : (List Tpair)) (gx6 : Int), gs = [(0, u0), (4, (sv b3 (a0.length : Int).toNat)), (7, gv4), (35, u0), (36, .int .i64 (a0.length : Int)), (37, .int .i64 gx6)] ∧ D = Cls w [] [.sl (sv b3 (a0.length : Int).toNat) 3 1 (gl1.map I), .sl gv4 37 4 (gl5.map Tpair.row)] ∧ m16_run_pairs_L1 a0 gl1 m gl5 gx6 = some r) ⟨.slice none 0 0, [], 0, rfl, rfl, h⟩ ⟨rfl, rfl, rfl, rfl, rfl, rfl, trivial⟩ (fun _ hw => hw.sel [1, 0] (by decide) rfl) ?_
    rintro m _ _ ⟨gv4, gl5, gx6, rfl, rfl, h⟩
    rcases m with _ | m
    · rw [m16_run_pairs_L1] at h; cases h
    rw [m16_run_pairs_L1] at h
    generalize hg1 : m16_run_pairs_L1 a0 gl1 m = go1 at h
    rw [m16_run_pairs_L1B] at h
    refine W.seq (W.region (L.ite h rfl (Y.lss rfl rfl) (fun c5 h => ?_) (fun c5 h => ?_)))
    ·
     refine L.nil (E.thenN (W.seq (W.condT rfl ?_)))
     refine W.skip (E.thenN (W.seqJ (fun gs D => ∃ (gv7 : Value) (gl8 : (List Tpair)), gs = [(0, u0), (4, (sv b3 (a0.length : Int).toNat)), (7, gv7), (35, u0), (36, .int .i64 (a0.length : Int)), (37, .int .i64 gx6)] ∧ D = Cls w [] [.sl (sv b3 (a0.length : Int).toNat) 3 1 (gl1.map I), .sl gv7 37 4 (gl8.map Tpair.row)] ∧ m16_run_pairs_K3 gx6 go1 gl8 = some r) ?_ ?_))
     ·
      refine W.block (W.seq (W.region (L.y rfl (Y.move rfl) ?_)))
      refine L.m (V := fun _ => el u0 (gx6.toNat * 3)) h rfl (Y.indexM (g := TOp.row) (l := a0) Try.underlying22 sz30 rfl rfl (fun w' hw => hA0.cls0 hw)) (fun x7 ex7 h => ?_)
      refine L.y rfl (Y.loadEN (r := [.int .i64 x7.Tx, .int .i64 x7.Kind, .int .i64 x7.Item]) ag30 sz30 rfl (fun w' hw => hA0.cls0 hw) (idx_map ex7) rfl) ?_
      refine L.alloc rfl ze30 ?_
      intro b8
      refine L.y rfl (Y.assign rfl) ?_
      refine L.store (i := 0) (vs := [.int .i64 x7.Tx, .int .i64 x7.Kind, .int .i64 x7.Item]) sz30 rfl rfl rfl rfl (by simp [Value.oneCell', Value.cells, st, pt, el]) rfl (Nat.le_of_ble_eq_true rfl) ?_
      refine L.nil (E.thenN (W.seq (W.region (L.y rfl (Y.move rfl) ?_))))
      refine L.m (V := fun x9 => .int .i64 x9) h rfl (Y.addM rfl rfl) (fun x9 ex9 h => ?_)
      refine L.y rfl (Y.assign rfl) ?_
      refine L.nil (E.thenN (W.block (W.loopJ (fun m gs D => ∃ (gv9 : Value) (gl10 : (List Tpair)) (gx11 : Int), gs = [(0, u0), (4, (sv b3 (a0.length : Int).toNat)), (7, gv9), (8, .int .i64 gx6), (9, pt b8 0), (10, .int .i64 gx11), (35, u0), (36, .int .i64 (a0.length : Int)), (37, .int .i64 gx6)] ∧ D = Cls w [] [.obj b8 [.int .i64 x7.Tx, .int .i64 x7.Kind, .int .i64 x7.Item] 30, .sl (sv b3 (a0.length : Int).toNat) 3 1 (gl1.map I), .sl gv9 37 4 (gl10.map Tpair.row)] ∧ m16_run_pairs_L2 a0 x7 gl1 gx6 go1 m gl10 gx11 = some r) ⟨gv4, gl5, x9, rfl, rfl, h⟩ ⟨rfl, rfl, rfl, rfl, rfl, rfl, rfl, rfl, rfl, trivial⟩ (fun _ hw => hw) ?_)))
      rintro m _ _ ⟨gv9, gl10, gx11, rfl, rfl, h⟩
      rcases m with _ | m
      · rw [m16_run_pairs_L2] at h; cases h
      rw [m16_run_pairs_L2] at h
      generalize hg2 : m16_run_pairs_L2 a0 x7 gl1 gx6 go1 m = go2 at h
      rw [m16_run_pairs_L2B] at h
      refine W.seqJ (fun gs D => gs = [(0, u0), (4, (sv b3 (a0.length : Int).toNat)), (7, gv9), (8, .int .i64 gx6), (9, pt b8 0), (10, .int .i64 gx11), (35, u0), (36, .int .i64 (a0.length : Int)), (37, .int .i64 gx6)] ∧ D = Cls w [] [.obj b8 [.int .i64 x7.Tx, .int .i64 x7.Kind, .int .i64 x7.Item] 30, .sl (sv b3 (a0.length : Int).toNat) 3 1 (gl1.map I), .sl gv9 37 4 (gl10.map Tpair.row)] ∧ m16_run_pairs_K4 a0 gx11 x7 gl1 gx6 gl10 go2 = some r) ?_ ?_
      ·
       refine W.seq (W.region (L.y rfl (Y.move rfl) ?_))
       refine L.y rfl (Y.move rfl) ?_
       refine L.y rfl (Y.lenM (g := TOp.row) (l := a0) Try.underlying22 rfl (fun w' hw => hA0.cls0 hw)) ?_
       refine L.ite h rfl (Y.lss rfl rfl) (fun c27 h => ?_) (fun c27 h => ?_)
       ·
        refine L.nil (E.thenN (W.condT rfl ?_))
        exact W.skip (E.joinJ ⟨rfl, rfl, h⟩ ⟨rfl, rfl, rfl, rfl, rfl, rfl, rfl, rfl, rfl, trivial⟩ (fun _ hw => hw))
       ·
        refine L.nil (E.thenN (W.condF rfl ?_))
        exact W.exit (E.KSX (E.KLX (E.blockX (E.blockN (E.joinJ ⟨gv9, gl10, rfl, rfl, h⟩ ⟨rfl, rfl, rfl, rfl, rfl, rfl, trivial⟩ (fun _ hw => hw.sel [1, 2] (by decide) rfl))))))
      ·
       rintro _ _ ⟨rfl, rfl, h⟩
       rw [m16_run_pairs_K4] at h
       refine W.seq (W.block (W.seq (W.quietC mixed (by kernel_rfl) (fun _ hw => hw.drew) (fun hC => ?_))))
       refine U.y rfl (Y.loadPW (i := 0) ag30 sz30 rfl rfl rfl) ?_
       refine U.y rfl (Y.move rfl) ?_
       refine U.y rfl (Y.move rfl) ?_
       refine U.m (V := fun _ => el u0 (gx11.toNat * 3)) h rfl (Y.indexM (g := TOp.row) (l := a0) Try.underlying22 sz30 rfl rfl (fun w' hw => hA0.cls0 hw)) (fun x10 ex10 h => ?_)
       refine U.y rfl (Y.loadEN (r := [.int .i64 x10.Tx, .int .i64 x10.Kind, .int .i64 x10.Item]) ag30 sz30 rfl (fun w' hw => hA0.cls0 hw) (idx_map ex10) rfl) ?_
       obtain ⟨b11, e12, h⟩ := bind1S h
       refine U.y rfl (Y.does en28 rfl (fun w' hw => (w28_run_clash x7 x10 w' _ e12).mono (fun _ _ h => h.1))) ?_
       rcases b11 with _ | _
       ·
        replace h := iteF h
        refine U.nil (E.thenN (W.condF rfl ?_))
        refine W.skip (E.blockN (E.thenN (W.region (L.y rfl (Y.move rfl) ?_))))
        refine L.m (V := fun x13 => .int .i64 x13) h rfl (Y.addM rfl rfl) (fun x13 ex13 h => ?_)
        refine L.y rfl (Y.assign rfl) ?_
        exact L.nil (E.againJ ⟨gv9, gl10, x13, rfl, rfl, by rw [hg2]; exact h⟩ (Nat.lt_succ_self _) ⟨rfl, rfl, rfl, rfl, rfl, rfl, rfl, rfl, rfl, trivial⟩ (fun _ hw => hw))
       ·
        replace h := iteT h
        refine U.nil (E.thenN (W.condT rfl ?_))
        refine W.drawn2 (k := 20) (stC [[18]] [Cls w [] [.obj b8 [.int .i64 x7.Tx, .int .i64 x7.Kind, .int .i64 x7.Item] 30, .sl (sv b3 (a0.length : Int).toNat) 3 1 (gl1.map I), .sl gv9 37 4 (gl10.map Tpair.row)]] (Cls w [] [.obj b8 [.int .i64 x7.Tx, .int .i64 x7.Kind, .int .i64 x7.Item] 30, .sl (sv b3 (a0.length : Int).toNat) 3 1 (gl1.map I)])) rfl mixed (fun _ hw => hw.drew) (Sc.now (by kernel_rfl) (fun _ hw => hw)) ?_
        refine V2.y (i := 0) (Nx2.of (Z := Cls w [] [.obj b8 [.int .i64 x7.Tx, .int .i64 x7.Kind, .int .i64 x7.Item] 30, .sl (sv b3 (a0.length : Int).toNat) 3 1 (gl1.map I)]) [] (by kernel_rfl) rfl (Zc.on (fun _ hw => hw.sel [0, 1] (by decide) rfl) (Zc.fin (fun _ hw => hw)))) rfl rfl rfl (Y.move rfl) ?_
        refine V2.y (i := 1) (Nx2.of (Z := Cls w [] [.obj b8 [.int .i64 x7.Tx, .int .i64 x7.Kind, .int .i64 x7.Item] 30, .sl (sv b3 (a0.length : Int).toNat) 3 1 (gl1.map I)]) [] (by kernel_rfl) rfl (Zc.on (fun _ hw => hw.sel [0, 1] (by decide) rfl) (Zc.fin (fun _ hw => hw)))) rfl rfl rfl (Y.fieldP fd30_0 rfl) ?_
        refine V2.y (i := 2) (Nx2.of (Z := Cls w [] [.obj b8 [.int .i64 x7.Tx, .int .i64 x7.Kind, .int .i64 x7.Item] 30, .sl (sv b3 (a0.length : Int).toNat) 3 1 (gl1.map I)]) [] (by kernel_rfl) rfl (Zc.on (fun _ hw => hw.sel [0, 1] (by decide) rfl) (Zc.fin (fun _ hw => hw)))) rfl rfl rfl (Y.loadP (i := 0) ag3 rfl rfl rfl) ?_
        refine V2.y (i := 3) (Nx2.of (Z := Cls w [] [.obj b8 [.int .i64 x7.Tx, .int .i64 x7.Kind, .int .i64 x7.Item] 30, .sl (sv b3 (a0.length : Int).toNat) 3 1 (gl1.map I)]) [] (by kernel_rfl) rfl (Zc.on (fun _ hw => hw.sel [0, 1] (by decide) rfl) (Zc.fin (fun _ hw => hw)))) rfl rfl rfl (Y.move rfl) ?_
        refine V2.y (i := 4) (Nx2.of (Z := Cls w [] [.obj b8 [.int .i64 x7.Tx, .int .i64 x7.Kind, .int .i64 x7.Item] 30, .sl (sv b3 (a0.length : Int).toNat) 3 1 (gl1.map I)]) [] (by kernel_rfl) rfl (Zc.on (fun _ hw => hw.sel [0, 1] (by decide) rfl) (Zc.fin (fun _ hw => hw)))) rfl rfl rfl (Y.move rfl) ?_
        refine V2.m (i := 5) (V' := fun _ => el (sv b3 (a0.length : Int).toNat) (gx6.toNat * 1)) h (Nx2.of (Z := Cls w [] [.obj b8 [.int .i64 x7.Tx, .int .i64 x7.Kind, .int .i64 x7.Item] 30, .sl (sv b3 (a0.length : Int).toNat) 3 1 (gl1.map I)]) [] (by kernel_rfl) rfl (Zc.on (fun _ hw => hw.sel [0, 1] (by decide) rfl) (Zc.fin (fun _ hw => hw)))) rfl rfl rfl (Y.indexM (g := I) (l := gl1) Try.underlying62 sz3 rfl rfl (fun w hw => As.at_ (hw.get (i := 1) rfl))) (fun x20 ex20 h => ?_)
        refine V2.y (i := 6) (Nx2.of (Z := Cls w [] [.obj b8 [.int .i64 x7.Tx, .int .i64 x7.Kind, .int .i64 x7.Item] 30, .sl (sv b3 (a0.length : Int).toNat) 3 1 (gl1.map I)]) [] (by kernel_rfl) rfl (Zc.on (fun _ hw => hw.sel [0, 1] (by decide) rfl) (Zc.fin (fun _ hw => hw)))) rfl rfl rfl (Y.loadE1 (u := .int .i64 x20) ag3 rfl (fun w hw => As.at_ (hw.get (i := 1) rfl)) (idx_map ex20)) ?_
        refine V2.y (i := 7) (Nx2.of (Z := Cls w [] [.obj b8 [.int .i64 x7.Tx, .int .i64 x7.Kind, .int .i64 x7.Item] 30, .sl (sv b3 (a0.length : Int).toNat) 3 1 (gl1.map I)]) [] (by kernel_rfl) rfl (Zc.on (fun _ hw => hw.sel [0, 1] (by decide) rfl) (Zc.fin (fun _ hw => hw)))) rfl rfl rfl (Y.move rfl) ?_
        refine V2.y (i := 8) (Nx2.of (Z := Cls w [] [.obj b8 [.int .i64 x7.Tx, .int .i64 x7.Kind, .int .i64 x7.Item] 30, .sl (sv b3 (a0.length : Int).toNat) 3 1 (gl1.map I)]) [] (by kernel_rfl) rfl (Zc.on (fun _ hw => hw.sel [0, 1] (by decide) rfl) (Zc.fin (fun _ hw => hw)))) rfl rfl rfl (Y.move rfl) ?_
        refine V2.m (i := 9) (V' := fun _ => el u0 (gx11.toNat * 3)) h (Nx2.of (Z := Cls w [] [.obj b8 [.int .i64 x7.Tx, .int .i64 x7.Kind, .int .i64 x7.Item] 30, .sl (sv b3 (a0.length : Int).toNat) 3 1 (gl1.map I)]) [] (by kernel_rfl) rfl (Zc.on (fun _ hw => hw.sel [0, 1] (by decide) rfl) (Zc.fin (fun _ hw => hw)))) rfl rfl rfl (Y.indexM (g := TOp.row) (l := a0) Try.underlying22 sz30 rfl rfl (fun w' hw => hA0.cls0 hw)) (fun x21 ex21 h => ?_)
        refine V2.y (i := 10) (Nx2.of (Z := Cls w [] [.obj b8 [.int .i64 x7.Tx, .int .i64 x7.Kind, .int .i64 x7.Item] 30, .sl (sv b3 (a0.length : Int).toNat) 3 1 (gl1.map I)]) [] (by kernel_rfl) rfl (Zc.on (fun _ hw => hw.sel [0, 1] (by decide) rfl) (Zc.fin (fun _ hw => hw)))) rfl rfl rfl (Y.fieldE fd30_0 rfl) ?_
        refine V2.y (i := 11) (Nx2.of (Z := Cls w [] [.obj b8 [.int .i64 x7.Tx, .int .i64 x7.Kind, .int .i64 x7.Item] 30, .sl (sv b3 (a0.length : Int).toNat) 3 1 (gl1.map I)]) [] (by kernel_rfl) rfl (Zc.on (fun _ hw => hw.sel [0, 1] (by decide) rfl) (Zc.fin (fun _ hw => hw)))) rfl rfl rfl (Y.loadE (u := .int .i64 x21.Tx) ag3 rfl (fun w' hw => hA0.cls0 hw) (idx_map ex21) rfl) ?_
        refine V2.y (i := 12) (Nx2.of (Z := Cls w [] [.obj b8 [.int .i64 x7.Tx, .int .i64 x7.Kind, .int .i64 x7.Item] 30, .sl (sv b3 (a0.length : Int).toNat) 3 1 (gl1.map I)]) [] (by kernel_rfl) rfl (Zc.on (fun _ hw => hw.sel [0, 1] (by decide) rfl) (Zc.fin (fun _ hw => hw)))) rfl rfl rfl (Y.move rfl) ?_
        refine V2.y (i := 13) (Nx2.of (Z := Cls w [] [.obj b8 [.int .i64 x7.Tx, .int .i64 x7.Kind, .int .i64 x7.Item] 30, .sl (sv b3 (a0.length : Int).toNat) 3 1 (gl1.map I)]) [] (by kernel_rfl) rfl (Zc.on (fun _ hw => hw.sel [0, 1] (by decide) rfl) (Zc.fin (fun _ hw => hw)))) rfl rfl rfl (Y.move rfl) ?_
        refine V2.m (i := 14) (V' := fun _ => el (sv b3 (a0.length : Int).toNat) (gx11.toNat * 1)) h (Nx2.of (Z := Cls w [] [.obj b8 [.int .i64 x7.Tx, .int .i64 x7.Kind, .int .i64 x7.Item] 30, .sl (sv b3 (a0.length : Int).toNat) 3 1 (gl1.map I)]) [] (by kernel_rfl) rfl (Zc.on (fun _ hw => hw.sel [0, 1] (by decide) rfl) (Zc.fin (fun _ hw => hw)))) rfl rfl rfl (Y.indexM (g := I) (l := gl1) Try.underlying62 sz3 rfl rfl (fun w hw => As.at_ (hw.get (i := 1) rfl))) (fun x22 ex22 h => ?_)
        refine V2.y (i := 15) (Nx2.of (Z := Cls w [] [.obj b8 [.int .i64 x7.Tx, .int .i64 x7.Kind, .int .i64 x7.Item] 30, .sl (sv b3 (a0.length : Int).toNat) 3 1 (gl1.map I)]) [] (by kernel_rfl) rfl (Zc.on (fun _ hw => hw.sel [0, 1] (by decide) rfl) (Zc.fin (fun _ hw => hw)))) rfl rfl rfl (Y.loadE1 (u := .int .i64 x22) ag3 rfl (fun w hw => As.at_ (hw.get (i := 1) rfl)) (idx_map ex22)) ?_
        refine V2.y (i := 16) (Nx2.of (Z := Cls w [] [.obj b8 [.int .i64 x7.Tx, .int .i64 x7.Kind, .int .i64 x7.Item] 30, .sl (sv b3 (a0.length : Int).toNat) 3 1 (gl1.map I)]) [] (by kernel_rfl) rfl (Zc.on (fun _ hw => hw.sel [0, 1] (by decide) rfl) (Zc.fin (fun _ hw => hw)))) rfl rfl rfl (Y.build (cells := #[.int .i64 x7.Tx, .int .i64 x20, .int .i64 x21.Tx, .int .i64 x22]) rfl (by kernel_rfl)) ?_
        refine V2.eff (i := 17) (by kernel_rfl) rfl ?_
        refine L.litAgg rfl Try.underlying35 eL37 rfl rfl rfl ?_
        intro b23
        refine L.nil (E.toV2 (stC [[18]] [Cls w [] [.sl (sv b23 1) 37 4 (([(⟨x7.Tx, x20, x21.Tx, x22⟩ : Tpair)]).map Tpair.row), .obj b8 [.int .i64 x7.Tx, .int .i64 x7.Kind, .int .i64 x7.Item] 30, .sl (sv b3 (a0.length : Int).toNat) 3 1 (gl1.map I), .sl gv9 37 4 (gl10.map Tpair.row)]] (Cls w [] [.sl (sv b23 1) 37 4 (([(⟨x7.Tx, x20, x21.Tx, x22⟩ : Tpair)]).map Tpair.row), .obj b8 [.int .i64 x7.Tx, .int .i64 x7.Kind, .int .i64 x7.Item] 30, .sl (sv b3 (a0.length : Int).toNat) 3 1 (gl1.map I)])) 17 (by kernel_rfl) (Sc.stay (fun _ hw => hw.sel [1, 2, 3] (by decide) rfl) (Sc.stayD (fun _ hw => hw.sel [1, 2] (by decide) rfl))) (Sc.now (by kernel_rfl) (fun _ hw => hw)) ?_)
        refine V2.eff (i := 18) (by kernel_rfl) rfl ?_
        refine L.appM (i := 3) (g := Tpair.row) (l := gl10) (more := [(⟨x7.Tx, x20, x21.Tx, x22⟩ : Tpair)]) h rfl Try.underlying35 eL37 rfl rfl rfl (fun w hw => As.at_ (hw.get (i := 0) rfl)) (plain_Tpair _) rfl ?_
        intro v24 l25 el25 h
        refine L.nil (E.toV2 (stC [] [] (Cls w [] [.sl v24 37 4 (l25.map Tpair.row), .sl (sv b23 1) 37 4 (([(⟨x7.Tx, x20, x21.Tx, x22⟩ : Tpair)]).map Tpair.row), .obj b8 [.int .i64 x7.Tx, .int .i64 x7.Kind, .int .i64 x7.Item] 30, .sl (sv b3 (a0.length : Int).toNat) 3 1 (gl1.map I)])) 18 (by kernel_rfl) (Sc.past rfl (Sc.stayD (fun _ hw => hw.sel [1, 2, 3] (by decide) rfl))) (Sc.atD (fun _ hw => hw)) ?_)
        refine V2.y (i := 19) (Nx2.of (Z := Cls w [] [.sl v24 37 4 (l25.map Tpair.row), .sl (sv b23 1) 37 4 (([(⟨x7.Tx, x20, x21.Tx, x22⟩ : Tpair)]).map Tpair.row), .obj b8 [.int .i64 x7.Tx, .int .i64 x7.Kind, .int .i64 x7.Item] 30, .sl (sv b3 (a0.length : Int).toNat) 3 1 (gl1.map I)]) [] (by kernel_rfl) rfl (Zc.fin (fun _ hw => hw))) rfl rfl rfl (Y.assign rfl) ?_
        refine V2.done (by kernel_rfl) ?_
        refine E.blockN (E.thenN (W.region (L.y rfl (Y.move rfl) ?_)))
        refine L.m (V := fun x26 => .int .i64 x26) h rfl (Y.addM rfl rfl) (fun x26 ex26 h => ?_)
        refine L.y rfl (Y.assign rfl) ?_
        exact L.nil (E.againJ ⟨v24, l25, x26, rfl, rfl, by rw [hg2]; exact h⟩ (Nat.lt_succ_self _) ⟨rfl, rfl, rfl, rfl, rfl, rfl, rfl, rfl, rfl, trivial⟩ (fun _ hw => hw.sel [2, 3, 0] (by decide) rfl))
     ·
      rintro _ _ ⟨gv7, gl8, rfl, rfl, h⟩
      rw [m16_run_pairs_K3] at h
      refine W.region (L.m (V := fun x6 => .int .i64 x6) h rfl (Y.addM rfl rfl) (fun x6 ex6 h => ?_))
      refine L.y rfl (Y.move rfl) ?_
      exact L.nil (E.againJ ⟨gv7, gl8, x6, rfl, rfl, by rw [hg1]; exact h⟩ (Nat.lt_succ_self _) ⟨rfl, rfl, rfl, rfl, rfl, rfl, trivial⟩ (fun _ hw => hw))
    ·
     refine L.nil (E.thenN (W.seq (W.condF rfl ?_)))
     exact W.exit (E.thenX (E.KLX (E.blockX (E.joinJ ⟨gv4, gl5, rfl, rfl, h⟩ ⟨rfl, trivial⟩ (fun _ hw => hw.sel [1] (by decide) rfl)))))
   ·
    rintro _ _ ⟨gv2, gl3, rfl, rfl, h⟩
    rw [m16_run_pairs_K2] at h
    refine W.seq (W.region (L.y rfl (Y.move rfl) ?_))
    refine L.sortFMD (i := 0) (l := gl3) (enc := Tpair.row) (cf := (fun x y => (m30_run_pairs_1 x y).getD 0)) h wSort29 (fun _ => rfl) swo30 tot30 en30 (fun x y w => (w30_run_pairs_1 x y w _ (def30 x y)).mono (fun _ _ h => h.1)) rfl en29 rfl rfl rfl ?_
    intro l4 el4 h
    refine L.nil (E.thenN (W.seq (W.region (L.y rfl (Y.move rfl) ?_))))
    refine L.y rfl (Y.assign rfl) ?_
    refine L.nil (E.thenN (W.ret (E.ret1 rfl rfl (fun w1 hw => ?_))))
    obtain rfl := Option.some.inj h
    exact ⟨_, _, rfl, ⟨_, rfl, rfl⟩, hw⟩
set_option maxRecDepth 100000 in
set_option maxHeartbeats 8000000 in
theorem w15_run_pair (a0 : (List Tpair)) (a1 : (List Tpair)) (u0 : Value) (u1 : Value) (w : World) (r : Bool) (h : m15_run_pair a0 a1 = some r) (hA0 : At w u0 4 (a0.map Tpair.row)) (hA1 : At w u1 4 (a1.map Tpair.row)) : Does Try.prog 15 [u0, u1] w fun u m => u = .bool r ∧ m = [] := by
  rw [m15_run_pair] at h
  refine body (n := 26) Try.func15 rfl rfl rfl (Cls.refl w) ?_
  refine W.seq (W.region (L.y rfl (Y.assign rfl) ?_))
  refine L.nil (E.thenN (W.seqJ (fun gs D => gs = [(0, u0), (1, u1)] ∧ D = Cls w [] [] ∧ m15_run_pair_K1 a0 a1 = some r) ?_ ?_))
  ·
   refine W.seq (W.region (L.y rfl (Y.move rfl) ?_))
   refine L.y rfl (Y.lenM (g := Tpair.row) (l := a0) Try.underlying35 rfl (fun w' hw => hA0.cls0 hw)) ?_
   refine L.y rfl (Y.move rfl) ?_
   refine L.y rfl (Y.lenM (g := Tpair.row) (l := a1) Try.underlying35 rfl (fun w' hw => hA1.cls0 hw)) ?_
   refine L.ite h rfl (Y.neq rfl rfl) (fun c6 h => ?_) (fun c6 h => ?_)
   ·
    refine L.nil (E.thenN (W.condT rfl ?_))
    refine W.seq (W.region (L.y rfl (Y.assign rfl) ?_))
    refine L.nil (E.thenN (W.ret (E.KSR (E.ret1 rfl rfl (fun w1 hw => ?_)))))
    obtain rfl := Option.some.inj h
    exact ⟨_, _, rfl, ⟨rfl, rfl⟩, hw⟩
   ·
    refine L.nil (E.thenN (W.condF rfl ?_))
    exact W.skip (E.joinJ ⟨rfl, rfl, h⟩ ⟨rfl, rfl, trivial⟩ (fun _ hw => hw))
  ·
   rintro _ _ ⟨rfl, rfl, h⟩
   rw [m15_run_pair_K1] at h
   refine W.seqJ (fun gs D => gs = [] ∧ D = Cls w [] [] ∧ m15_run_pair_K2 = some r) ?_ ?_
   ·
    refine W.seq (W.region (L.y rfl (Y.move rfl) ?_))
    refine L.y rfl (Y.lenM (g := Tpair.row) (l := a0) Try.underlying35 rfl (fun w' hw => hA0.cls0 hw)) ?_
    refine L.y rfl (Y.move rfl) ?_
    refine L.nil (E.thenN (W.block (W.loopJ (fun m gs D => ∃ (gx1 : Int), gs = [(0, u0), (1, u1), (12, .int .i64 (a0.length : Int)), (13, .int .i64 gx1)] ∧ D = Cls w [] [] ∧ m15_run_pair_L1 a0 a1 m gx1 = some r) ⟨0, rfl, rfl, h⟩ ⟨rfl, rfl, rfl, rfl, trivial⟩ (fun _ hw => hw) ?_)))
    rintro m _ _ ⟨gx1, rfl, rfl, h⟩
    rcases m with _ | m
    · rw [m15_run_pair_L1] at h; cases h
    rw [m15_run_pair_L1] at h
    generalize hg1 : m15_run_pair_L1 a0 a1 m = go1 at h
    rw [m15_run_pair_L1B] at h
    refine W.seq (W.region (L.ite h rfl (Y.lss rfl rfl) (fun c1 h => ?_) (fun c1 h => ?_)))
    ·
     refine L.nil (E.thenN (W.seq (W.condT rfl ?_)))
     refine W.skip (E.thenN (W.seq (W.block (W.seq (W.region (L.y rfl (Y.move rfl) ?_))))))
     refine L.y rfl (Y.assign rfl) ?_
     refine L.nil (E.thenN (W.seq (W.quietC mixed (by kernel_rfl) (fun _ hw => hw.drew) (fun hC => ?_))))
     refine U.y rfl (Y.move rfl) ?_
     refine U.y rfl (Y.move rfl) ?_
     refine U.m (V := fun _ => el u0 (gx1.toNat * 4)) h rfl (Y.indexM (g := Tpair.row) (l := a0) Try.underlying35 sz37 rfl rfl (fun w' hw => hA0.cls0 hw)) (fun x2 ex2 h => ?_)
     refine U.y rfl (Y.loadEN (r := [.int .i64 x2.a_, .int .i64 x2.i_, .int .i64 x2.b_, .int .i64 x2.k_]) ag37 sz37 rfl (fun w' hw => hA0.cls0 hw) (idx_map ex2) rfl) ?_
     refine U.y rfl (Y.move rfl) ?_
     refine U.y rfl (Y.move rfl) ?_
     refine U.m (V := fun _ => el u1 (gx1.toNat * 4)) h rfl (Y.indexM (g := Tpair.row) (l := a1) Try.underlying35 sz37 rfl rfl (fun w' hw => hA1.cls0 hw)) (fun x3 ex3 h => ?_)
     refine U.y rfl (Y.loadEN (r := [.int .i64 x3.a_, .int .i64 x3.i_, .int .i64 x3.b_, .int .i64 x3.k_]) ag37 sz37 rfl (fun w' hw => hA1.cls0 hw) (idx_map ex3) rfl) ?_
     refine U.ite h rfl (Y.neqA (row := Tpair.row) (a := x2) (b := x3) eg37 ag37 (sh37 _) (sh37 _) (inj37 _ _) rfl rfl) (fun c4 h => ?_) (fun c4 h => ?_)
     ·
      refine U.nil (E.thenN (W.condT rfl ?_))
      refine W.seq (W.region (L.y rfl (Y.assign rfl) ?_))
      refine L.nil (E.thenN (W.ret (E.blockR (E.thenR (E.KLR (E.blockR (E.KSR (E.ret1 rfl rfl (fun w1 hw => ?_)))))))))
      obtain rfl := Option.some.inj h
      exact ⟨_, _, rfl, ⟨rfl, rfl⟩, hw⟩
     ·
      refine U.nil (E.thenN (W.condF rfl ?_))
      refine W.skip (E.blockN (E.thenN (W.region (L.m (V := fun x5 => .int .i64 x5) h rfl (Y.addM rfl rfl) (fun x5 ex5 h => ?_)))))
      refine L.y rfl (Y.move rfl) ?_
      exact L.nil (E.againJ ⟨x5, rfl, rfl, by rw [hg1]; exact h⟩ (Nat.lt_succ_self _) ⟨rfl, rfl, rfl, rfl, trivial⟩ (fun _ hw => hw))
    ·
     refine L.nil (E.thenN (W.seq (W.condF rfl ?_)))
     exact W.exit (E.thenX (E.KLX (E.blockX (E.joinJ ⟨rfl, rfl, h⟩ trivial (fun _ hw => hw)))))
   ·
    rintro _ _ ⟨rfl, rfl, h⟩
    rw [m15_run_pair_K2] at h
    refine W.seq (W.region (L.y rfl (Y.assign rfl) ?_))
    refine L.nil (E.thenN (W.ret (E.ret1 rfl rfl (fun w1 hw => ?_))))
    obtain rfl := Option.some.inj h
    exact ⟨_, _, rfl, ⟨rfl, rfl⟩, hw⟩
set_option maxRecDepth 100000 in
set_option maxHeartbeats 8000000 in
theorem w6_run_Like (a0 : (List TOp)) (a1 : (List TOp)) (u0 : Value) (u1 : Value) (w : World) (r : (Bool × Int)) (h : m6_run_Like a0 a1 = some r) (hA0 : At w u0 3 (a0.map TOp.row)) (hA1 : At w u1 3 (a1.map TOp.row)) : Does Try.prog 6 [u0, u1] w fun u m => u = .tuple #[.bool r.1, .int .i64 r.2] ∧ m = [] := by
  rw [m6_run_Like] at h
  refine body (n := 40) Try.func6 rfl rfl rfl (Cls.refl w) ?_
  refine W.seq (W.region (L.y rfl (Y.assign rfl) ?_))
  refine L.y rfl (Y.assign rfl) ?_
  refine L.nil (E.thenN (W.seqJ (fun gs D => gs = [(0, u0), (1, u1)] ∧ D = Cls w [] [] ∧ m6_run_Like_K1 a1 a0 = some r) ?_ ?_))
  ·
   refine W.seq (W.region (L.y rfl (Y.move rfl) ?_))
   obtain ⟨x63, e64, h⟩ := bind1S h
   refine L.y rfl (Y.does en10 rfl (fun w' hw => (w10_run_Check a0 u0 w' _ e64 (hA0.cls0 hw)).mono (fun _ _ h => h.1))) ?_
   refine L.y rfl (Y.assign rfl) ?_
   refine L.nil (E.thenN (W.seq (W.region (L.y rfl (Y.move rfl) ?_))))
   refine L.ite h rfl (Y.neq rfl rfl) (fun c65 h => ?_) (fun c65 h => ?_)
   ·
    refine L.nil (E.thenN (W.condT rfl ?_))
    refine W.seq (W.region (L.y rfl (Y.move rfl) ?_))
    refine L.y rfl (Y.assign rfl) ?_
    refine L.y rfl (Y.assign rfl) ?_
    refine L.nil (E.thenN (W.ret (E.KSR (E.ret2 rfl rfl rfl (fun w1 hw => ?_)))))
    obtain rfl := Option.some.inj h
    exact ⟨_, _, rfl, ⟨rfl, rfl⟩, hw⟩
   ·
    refine L.nil (E.thenN (W.condF rfl ?_))
    exact W.skip (E.joinJ ⟨rfl, rfl, h⟩ ⟨rfl, rfl, trivial⟩ (fun _ hw => hw))
  ·
   rintro _ _ ⟨rfl, rfl, h⟩
   rw [m6_run_Like_K1] at h
   refine W.seqJ (fun gs D => gs = [(0, u0), (1, u1)] ∧ D = Cls w [] [] ∧ m6_run_Like_K2 a0 a1 = some r) ?_ ?_
   ·
    refine W.seq (W.region (L.y rfl (Y.move rfl) ?_))
    obtain ⟨x60, e61, h⟩ := bind1S h
    refine L.y rfl (Y.does en10 rfl (fun w' hw => (w10_run_Check a1 u1 w' _ e61 (hA1.cls0 hw)).mono (fun _ _ h => h.1))) ?_
    refine L.y rfl (Y.assign rfl) ?_
    refine L.nil (E.thenN (W.seq (W.region (L.y rfl (Y.move rfl) ?_))))
    refine L.ite h rfl (Y.neq rfl rfl) (fun c62 h => ?_) (fun c62 h => ?_)
    ·
     refine L.nil (E.thenN (W.condT rfl ?_))
     refine W.seq (W.region (L.y rfl (Y.move rfl) ?_))
     refine L.y rfl (Y.assign rfl) ?_
     refine L.y rfl (Y.assign rfl) ?_
     refine L.nil (E.thenN (W.ret (E.KSR (E.ret2 rfl rfl rfl (fun w1 hw => ?_)))))
     obtain rfl := Option.some.inj h
     exact ⟨_, _, rfl, ⟨rfl, rfl⟩, hw⟩
    ·
     refine L.nil (E.thenN (W.condF rfl ?_))
     exact W.skip (E.joinJ ⟨rfl, rfl, h⟩ ⟨rfl, rfl, trivial⟩ (fun _ hw => hw))
   ·
    rintro _ _ ⟨rfl, rfl, h⟩
    rw [m6_run_Like_K2] at h
    refine W.seqJ (fun gs D => gs = [(0, u0), (1, u1)] ∧ D = Cls w [] [] ∧ m6_run_Like_K3 a0 a1 = some r) ?_ ?_
    ·
     refine W.seq (W.region (L.y rfl (Y.move rfl) ?_))
     refine L.nil (E.thenN (W.block (W.loopJ (fun m gs D => ∃ (gx1 : Int), gs = [(0, u0), (1, u1), (20, .int .i64 gx1)] ∧ D = Cls w [] [] ∧ m6_run_Like_L1 a0 a1 m gx1 = some r) ⟨0, rfl, rfl, h⟩ ⟨rfl, rfl, rfl, trivial⟩ (fun _ hw => hw) ?_)))
     rintro m _ _ ⟨gx1, rfl, rfl, h⟩
     rcases m with _ | m
     · rw [m6_run_Like_L1] at h; cases h
     rw [m6_run_Like_L1] at h
     generalize hg1 : m6_run_Like_L1 a0 a1 m = go1 at h
     rw [m6_run_Like_L1B] at h
     refine W.seq (W.region (L.ite h rfl (Y.lss rfl rfl) (fun c9 h => ?_) (fun c9 h => ?_)))
     ·
      refine L.nil (E.thenN (W.seq (W.condT rfl ?_)))
      refine W.skip (E.thenN (W.seq (W.block (W.seq (W.region (L.y rfl (Y.move rfl) ?_))))))
      refine L.alloc rfl ze3 ?_
      intro b10
      refine L.store (i := 0) (vs := [.int .i64 gx1]) sz3 rfl rfl rfl rfl (by simp [Value.oneCell', Value.cells, st, pt, el]) rfl (Nat.le_of_ble_eq_true rfl) ?_
      refine L.nil (E.thenN (W.seq (W.region (L.y rfl (Y.func rfl) ?_))))
      refine L.y rfl (Y.assign rfl) ?_
      refine L.nil (E.thenN (W.seq (W.region (L.y rfl (Y.move rfl) ?_))))
      obtain ⟨l11, e13, h⟩ := bind1S h
      refine L.does rfl en14 rfl (fun w' hw => w14_api_Op a0 u0 w' _ e13 (hA0.cls0 hw)) ?_
      rintro v12 _ ⟨_, rfl, rfl⟩
      refine L.y rfl (Y.move rfl) ?_
      refine L.callJ (fun v D => ∃ (gv2 : Value) (gl3 : (List TOp)), v = gv2 ∧ D = Cls w [] [.obj b10 [.int .i64 gx1] 3, .sl gv2 30 3 (gl3.map TOp.row)] ∧ m6_run_Like_K4 a1 gx1 go1 gl3 = some r) rfl en13 rfl Try.func13 rfl rfl rfl ?_ ?_
      ·
       refine W.seq (W.region (L.y rfl (Y.assign rfl) ?_))
       refine L.nil (E.thenN (W.seq (W.region (L.y rfl (Y.move rfl) ?_))))
       refine L.y rfl (Y.move rfl) ?_
       refine L.callJ (fun v D => ∃ (gx13 : Int), v = .int .i64 gx13 ∧ D = Cls w [] [.obj b10 [.int .i64 gx1] 3, .sl v12 30 3 (l11.map TOp.row)] ∧ m6_run_Like_K13 a1 gx1 go1 l11 gx13 = some r) rfl en27 rfl Try.func27 rfl rfl rfl ?_ ?_
       ·
        refine W.seq (W.region (L.y rfl (Y.assign rfl) ?_))
        refine L.nil (E.thenN (W.seqJ (fun gs D => gs = [] ∧ D = Cls w [] [.obj b10 [.int .i64 gx1] 3, .sl v12 30 3 (l11.map TOp.row)] ∧ m6_run_Like_K18 a1 gx1 go1 l11 = some r) ?_ ?_))
        ·
         refine W.seq (W.region (L.y rfl (Y.move rfl) ?_))
         refine L.y rfl (Y.lenM (g := TOp.row) (l := l11) Try.underlying22 rfl (fun w hw => As.at_ (hw.get (i := 0) rfl))) ?_
         refine L.y rfl (Y.move rfl) ?_
         refine L.nil (E.thenN (W.block (W.loopJ (fun m gs D => ∃ (gx19 : Int), gs = [(0, v12), (1, .func (.func 11) #[] #[pt b10 0]), (7, .int .i64 (l11.length : Int)), (8, .int .i64 gx19)] ∧ D = Cls w [] [.obj b10 [.int .i64 gx1] 3, .sl v12 30 3 (l11.map TOp.row)] ∧ m6_run_Like_L5 l11 gx1 a1 go1 m gx19 = some r) ⟨0, rfl, rfl, h⟩ ⟨rfl, rfl, rfl, rfl, trivial⟩ (fun _ hw => hw.sel [1, 0] (by decide) rfl) ?_)))
         rintro m _ _ ⟨gx19, rfl, rfl, h⟩
         rcases m with _ | m
         · rw [m6_run_Like_L5] at h; cases h
         rw [m6_run_Like_L5] at h
         generalize hg5 : m6_run_Like_L5 l11 gx1 a1 go1 m = go5 at h
         rw [m6_run_Like_L5B] at h
         refine W.seq (W.region (L.ite h rfl (Y.lss rfl rfl) (fun c56 h => ?_) (fun c56 h => ?_)))
         ·
          refine L.nil (E.thenN (W.seq (W.condT rfl ?_)))
          refine W.skip (E.thenN (W.seq (W.block (W.seq (W.region (L.y rfl (Y.move rfl) ?_))))))
          refine L.y rfl (Y.assign rfl) ?_
          refine L.nil (E.thenN (W.seq (W.region (L.y rfl (Y.move rfl) ?_))))
          refine L.y rfl (Y.move rfl) ?_
          refine L.y rfl (Y.move rfl) ?_
          refine L.m (V := fun _ => el v12 (gx19.toNat * 3)) h rfl (Y.indexM (g := TOp.row) (l := l11) Try.underlying22 sz30 rfl rfl (fun w hw => As.at_ (hw.get (i := 1) rfl))) (fun x57 ex57 h => ?_)
          refine L.y rfl (Y.loadEN (r := [.int .i64 x57.Tx, .int .i64 x57.Kind, .int .i64 x57.Item]) ag30 sz30 rfl (fun w hw => As.at_ (hw.get (i := 1) rfl)) (idx_map ex57) rfl) ?_
          refine L.callVJ (fun v D => v = .bool (decide (x57.Tx ≠ gx1)) ∧ D = Cls w [] [.obj b10 [.int .i64 gx1] 3, .sl v12 30 3 (l11.map TOp.row)] ∧ m6_run_Like_K19 x57 gx1 a1 go1 l11 gx19 go5 = some r) rfl en11 rfl rfl Try.func11 rfl rfl rfl ?_ ?_
          ·
           refine W.seq (W.region (L.box rfl rfl ?_))
           intro b59
           refine L.y rfl (Y.assign rfl) ?_
           refine L.nil (E.thenN (W.seq (W.region (L.y rfl (Y.fieldP fd30_0 rfl) ?_))))
           refine L.y rfl (Y.loadP (i := 0) ag3 rfl rfl rfl) ?_
           refine L.y rfl (Y.loadP (i := 1) ag3 rfl rfl rfl) ?_
           refine L.y rfl (Y.neq rfl rfl) ?_
           refine L.y rfl (Y.assign rfl) ?_
           refine L.nil (E.thenN (W.ret (E.ret1 rfl rfl (fun w1 hw => ?_))))
           exact ⟨_, _, rfl, ⟨rfl, rfl, h⟩, hw.sel [1, 2] (by decide) rfl⟩
          ·
           rintro _ _ ⟨rfl, rfl, h⟩
           rw [m6_run_Like_K19] at h
           refine L.nil (E.thenN (W.caseB (q := 16) h rfl (fun h => ?_) (fun h => ?_)))
           ·
            refine W.condT rfl ?_
            refine W.seq (W.region (L.y rfl (Y.move rfl) ?_))
            refine L.y rfl (Y.assign rfl) ?_
            refine L.nil (E.thenN (W.ret (E.blockR (E.thenR (E.KLR (E.blockR (E.KSR (E.ret1 rfl rfl (fun w1 hw => ?_)))))))))
            exact ⟨_, _, rfl, ⟨gx19, rfl, rfl, h⟩, hw⟩
           ·
            refine W.condF rfl ?_
            refine W.skip (E.blockN (E.thenN (W.region (L.m (V := fun x58 => .int .i64 x58) h rfl (Y.addM rfl rfl) (fun x58 ex58 h => ?_)))))
            refine L.y rfl (Y.move rfl) ?_
            exact L.nil (E.againJ ⟨x58, rfl, rfl, by rw [hg5]; exact h⟩ (Nat.lt_succ_self _) ⟨rfl, rfl, rfl, rfl, trivial⟩ (fun _ hw => hw))
         ·
          refine L.nil (E.thenN (W.seq (W.condF rfl ?_)))
          exact W.exit (E.thenX (E.KLX (E.blockX (E.joinJ ⟨rfl, rfl, h⟩ trivial (fun _ hw => hw)))))
        ·
         rintro _ _ ⟨rfl, rfl, h⟩
         rw [m6_run_Like_K18] at h
         refine W.seq (W.region (L.y rfl (Y.assign rfl) ?_))
         refine L.nil (E.thenN (W.ret (E.ret1 rfl rfl (fun w1 hw => ?_))))
         exact ⟨_, _, rfl, ⟨(-1), rfl, rfl, h⟩, hw⟩
       ·
        rintro _ _ ⟨gx13, rfl, rfl, h⟩
        rw [m6_run_Like_K13] at h
        refine L.y rfl (Y.assign rfl) ?_
        refine L.nil (E.thenN (W.seqJ (fun gs D => gs = [(0, v12), (1, .func (.func 11) #[] #[pt b10 0]), (5, .int .i64 gx13)] ∧ D = Cls w [] [.obj b10 [.int .i64 gx1] 3, .sl v12 30 3 (l11.map TOp.row)] ∧ m6_run_Like_K14 gx13 gx1 a1 go1 l11 = some r) ?_ ?_))
        ·
         refine W.seq (W.region (L.y rfl (Y.move rfl) ?_))
         refine L.ite h rfl (Y.eql rfl rfl) (fun c55 h => ?_) (fun c55 h => ?_)
         ·
          refine L.nil (E.thenN (W.condT rfl ?_))
          refine W.seq (W.region (L.y rfl (Y.move rfl) ?_))
          refine L.y rfl (Y.assign rfl) ?_
          refine L.nil (E.thenN (W.ret (E.KSR (E.ret1 rfl rfl (fun w1 hw => ?_)))))
          exact ⟨_, _, rfl, ⟨v12, l11, rfl, rfl, h⟩, hw⟩
         ·
          refine L.nil (E.thenN (W.condF rfl ?_))
          exact W.skip (E.joinJ ⟨rfl, rfl, h⟩ ⟨rfl, rfl, rfl, trivial⟩ (fun _ hw => hw))
        ·
         rintro _ _ ⟨rfl, rfl, h⟩
         rw [m6_run_Like_K14] at h
         refine W.seqJ (fun gs D => ∃ (gl14 : (List TOp)) (gx15 : Int), gs = [(0, v12), (5, .int .i64 gx15)] ∧ D = Cls w [] [.obj b10 [.int .i64 gx1] 3, .sl v12 30 3 (gl14.map TOp.row)] ∧ m6_run_Like_K15 a1 gx1 go1 gl14 gx15 = some r) ?_ ?_
         ·
          refine W.seq (W.region (L.y rfl (Y.move rfl) ?_))
          refine L.m (V := fun x44 => .int .i64 x44) h rfl (Y.addM rfl rfl) (fun x44 ex44 h => ?_)
          refine L.y rfl (Y.assign rfl) ?_
          refine L.nil (E.thenN (W.block (W.loopJ (fun m gs D => ∃ (gl16 : (List TOp)) (gx17 : Int) (gx18 : Int), gs = [(0, v12), (1, .func (.func 11) #[] #[pt b10 0]), (5, .int .i64 gx17), (6, .int .i64 gx18)] ∧ D = Cls w [] [.obj b10 [.int .i64 gx1] 3, .sl v12 30 3 (gl16.map TOp.row)] ∧ m6_run_Like_L4 gx1 a1 go1 m gl16 gx17 gx18 = some r) ⟨l11, gx13, x44, rfl, rfl, h⟩ ⟨rfl, rfl, rfl, rfl, trivial⟩ (fun _ hw => hw) ?_)))
          rintro m _ _ ⟨gl16, gx17, gx18, rfl, rfl, h⟩
          rcases m with _ | m
          · rw [m6_run_Like_L4] at h; cases h
          rw [m6_run_Like_L4] at h
          generalize hg4 : m6_run_Like_L4 gx1 a1 go1 m = go4 at h
          rw [m6_run_Like_L4B] at h
          refine W.seqJ (fun gs D => gs = [(0, v12), (1, .func (.func 11) #[] #[pt b10 0]), (5, .int .i64 gx17), (6, .int .i64 gx18)] ∧ D = Cls w [] [.obj b10 [.int .i64 gx1] 3, .sl v12 30 3 (gl16.map TOp.row)] ∧ m6_run_Like_K16 gl16 gx18 gx1 gx17 go4 = some r) ?_ ?_
          ·
           refine W.seq (W.region (L.y rfl (Y.move rfl) ?_))
           refine L.y rfl (Y.move rfl) ?_
           refine L.y rfl (Y.lenM (g := TOp.row) (l := gl16) Try.underlying22 rfl (fun w hw => As.at_ (hw.get (i := 1) rfl))) ?_
           refine L.ite h rfl (Y.lss rfl rfl) (fun c54 h => ?_) (fun c54 h => ?_)
           ·
            refine L.nil (E.thenN (W.condT rfl ?_))
            exact W.skip (E.joinJ ⟨rfl, rfl, h⟩ ⟨rfl, rfl, rfl, rfl, trivial⟩ (fun _ hw => hw))
           ·
            refine L.nil (E.thenN (W.condF rfl ?_))
            exact W.exit (E.KSX (E.KLX (E.blockX (E.joinJ ⟨gl16, gx17, rfl, rfl, h⟩ ⟨rfl, rfl, trivial⟩ (fun _ hw => hw)))))
          ·
           rintro _ _ ⟨rfl, rfl, h⟩
           rw [m6_run_Like_K16] at h
           refine W.seq (W.block (W.seq (W.region (L.y rfl (Y.move rfl) ?_))))
           refine L.y rfl (Y.move rfl) ?_
           refine L.m (V := fun _ => el v12 (gx18.toNat * 3)) h rfl (Y.indexM (g := TOp.row) (l := gl16) Try.underlying22 sz30 rfl rfl (fun w hw => As.at_ (hw.get (i := 1) rfl))) (fun x45 ex45 h => ?_)
           refine L.y rfl (Y.loadEN (r := [.int .i64 x45.Tx, .int .i64 x45.Kind, .int .i64 x45.Item]) ag30 sz30 rfl (fun w hw => As.at_ (hw.get (i := 1) rfl)) (idx_map ex45) rfl) ?_
           refine L.alloc rfl ze30 ?_
           intro b46
           refine L.store (i := 0) (vs := [.int .i64 x45.Tx, .int .i64 x45.Kind, .int .i64 x45.Item]) sz30 rfl rfl rfl rfl (by simp [Value.oneCell', Value.cells, st, pt, el]) rfl (Nat.le_of_ble_eq_true rfl) ?_
           refine L.nil (E.thenN (W.seq (W.region (L.y rfl (Y.move rfl) ?_))))
           refine L.y rfl (Y.loadPW (i := 0) ag30 sz30 rfl rfl rfl) ?_
           refine L.callVJ (fun v D => v = .bool (decide (x45.Tx ≠ gx1)) ∧ D = Cls w [] [.obj b46 [.int .i64 x45.Tx, .int .i64 x45.Kind, .int .i64 x45.Item] 30, .obj b10 [.int .i64 gx1] 3, .sl v12 30 3 (gl16.map TOp.row)] ∧ m6_run_Like_K17 x45 gx1 gl16 gx17 gx18 go4 = some r) rfl en11 rfl rfl Try.func11 rfl rfl rfl ?_ ?_
           ·
            refine W.seq (W.region (L.box rfl rfl ?_))
            intro b53
            refine L.y rfl (Y.assign rfl) ?_
            refine L.nil (E.thenN (W.seq (W.region (L.y rfl (Y.fieldP fd30_0 rfl) ?_))))
            refine L.y rfl (Y.loadP (i := 0) ag3 rfl rfl rfl) ?_
            refine L.y rfl (Y.loadP (i := 2) ag3 rfl rfl rfl) ?_
            refine L.y rfl (Y.neq rfl rfl) ?_
            refine L.y rfl (Y.assign rfl) ?_
            refine L.nil (E.thenN (W.ret (E.ret1 rfl rfl (fun w1 hw => ?_))))
            exact ⟨_, _, rfl, ⟨rfl, rfl, h⟩, hw.sel [1, 2, 3] (by decide) rfl⟩
           ·
            rintro _ _ ⟨rfl, rfl, h⟩
            rw [m6_run_Like_K17] at h
            refine L.iteB h rfl (Y.not rfl) (fun c47 h => ?_) (fun c47 h => ?_)
            ·
             refine L.nil (E.thenN (W.condT rfl ?_))
             refine W.seq (W.region (L.y rfl (Y.move rfl) ?_))
             refine L.y rfl (Y.move rfl) ?_
             refine L.y rfl (Y.loadPW (i := 0) ag30 sz30 rfl rfl rfl) ?_
             refine L.m (V := fun _ => el v12 (gx17.toNat * 3)) h rfl (Y.indexM (g := TOp.row) (l := gl16) Try.underlying22 sz30 rfl rfl (fun w hw => As.at_ (hw.get (i := 2) rfl))) (fun x48 ex48 h => ?_)
             refine L.storeSlM (q := 2) (row := TOp.row) (vs := [.int .i64 x45.Tx, .int .i64 x45.Kind, .int .i64 x45.Item]) (j := 0) (u1 := x45) h sz30 rfl rfl rfl rfl rfl (all1 rfl (all1 rfl (all1 rfl all0))) rfl ex48 rfl rfl ?_
             intro l49 el49 h
             refine L.nil (E.thenN (W.region (L.y rfl (Y.move rfl) ?_)))
             refine L.m (V := fun x50 => .int .i64 x50) h rfl (Y.addM rfl rfl) (fun x50 ex50 h => ?_)
             refine L.y rfl (Y.assign rfl) ?_
             refine L.nil (E.blockN (E.thenN (W.region (L.y rfl (Y.move rfl) ?_))))
             refine L.m (V := fun x51 => .int .i64 x51) h rfl (Y.addM rfl rfl) (fun x51 ex51 h => ?_)
             refine L.y rfl (Y.assign rfl) ?_
             exact L.nil (E.againJ ⟨l49, x50, x51, rfl, rfl, by rw [hg4]; exact h⟩ (Nat.lt_succ_self _) ⟨rfl, rfl, rfl, rfl, trivial⟩ (fun _ hw => hw.sel [1, 2] (by decide) rfl))
            ·
             refine L.nil (E.thenN (W.condF rfl ?_))
             refine W.skip (E.blockN (E.thenN (W.region (L.y rfl (Y.move rfl) ?_))))
             refine L.m (V := fun x52 => .int .i64 x52) h rfl (Y.addM rfl rfl) (fun x52 ex52 h => ?_)
             refine L.y rfl (Y.assign rfl) ?_
             exact L.nil (E.againJ ⟨gl16, gx17, x52, rfl, rfl, by rw [hg4]; exact h⟩ (Nat.lt_succ_self _) ⟨rfl, rfl, rfl, rfl, trivial⟩ (fun _ hw => hw.sel [1, 2] (by decide) rfl))
         ·
          rintro _ _ ⟨gl14, gx15, rfl, rfl, h⟩
          rw [m6_run_Like_K15] at h
          refine W.seq (W.region (L.y rfl (Y.move rfl) ?_))
          refine L.y rfl (Y.move rfl) ?_
          refine L.m (V := fun _ => dropv v12 gx15.toNat 3) h rfl (Y.dropM (g := TOp.row) Try.underlying22 sz30 rfl rfl (fun w hw => As.at_ (hw.get (i := 1) rfl))) (fun l40 el40 h => ?_)
          refine L.clearM (i := 1) (g := TOp.row) (z0 := (⟨0, 0, 0⟩ : TOp)) (a := gx15) h Try.underlying22 eL30 ze30 (fun u hu => ((plain_TOp _) : Plain ([(⟨0, 0, 0⟩ : TOp)].map TOp.row)) _ (List.mem_cons_self ..) u hu) rfl rfl ?_
          intro l41 el41 h
          refine L.nil (E.thenN (W.seq (W.region (L.y rfl (Y.move rfl) ?_))))
          refine L.y rfl (Y.move rfl) ?_
          obtain ⟨l42, el42, h⟩ := bind1S h
          refine L.cutM (i := 1) (g := TOp.row) el42 rfl Try.underlying22 sz30 rfl rfl rfl (fun v43 => ?_)
          refine L.y rfl (Y.assign rfl) ?_
          refine L.nil (E.thenN (W.ret (E.ret1 rfl rfl (fun w1 hw => ?_))))
          exact ⟨_, _, rfl, ⟨v43, l42, rfl, rfl, h⟩, hw⟩
      ·
       rintro gv2 _ ⟨_, gl3, rfl, rfl, h⟩
       rw [m6_run_Like_K4] at h
       refine L.y rfl (Y.move rfl) ?_
       obtain ⟨l14, e16, h⟩ := bind1S h
       refine L.does rfl en14 rfl (fun w' hw => w14_api_Op a1 u1 w' _ e16 (hA1.cls0 hw)) ?_
       rintro v15 _ ⟨_, rfl, rfl⟩
       refine L.y rfl (Y.move rfl) ?_
       refine L.callJ (fun v D => ∃ (gv4 : Value) (gl5 : (List TOp)), v = gv4 ∧ D = Cls w [] [.sl gv2 30 3 (gl3.map TOp.row), .sl gv4 30 3 (gl5.map TOp.row)] ∧ m6_run_Like_K5 gl3 gx1 go1 gl5 = some r) rfl en13 rfl Try.func13 rfl rfl rfl ?_ ?_
       ·
        refine W.seq (W.region (L.y rfl (Y.assign rfl) ?_))
        refine L.nil (E.thenN (W.seq (W.region (L.y rfl (Y.move rfl) ?_))))
        refine L.y rfl (Y.move rfl) ?_
        refine L.callJ (fun v D => ∃ (gx6 : Int), v = .int .i64 gx6 ∧ D = Cls w [] [.obj b10 [.int .i64 gx1] 3, .sl v15 30 3 (l14.map TOp.row), .sl gv2 30 3 (gl3.map TOp.row)] ∧ m6_run_Like_K6 gl3 gx1 go1 l14 gx6 = some r) rfl en27 rfl Try.func27 rfl rfl rfl ?_ ?_
        ·
         refine W.seq (W.region (L.y rfl (Y.assign rfl) ?_))
         refine L.nil (E.thenN (W.seqJ (fun gs D => gs = [] ∧ D = Cls w [] [.obj b10 [.int .i64 gx1] 3, .sl gv2 30 3 (gl3.map TOp.row), .sl v15 30 3 (l14.map TOp.row)] ∧ m6_run_Like_K11 gl3 gx1 go1 l14 = some r) ?_ ?_))
         ·
          refine W.seq (W.region (L.y rfl (Y.move rfl) ?_))
          refine L.y rfl (Y.lenM (g := TOp.row) (l := l14) Try.underlying22 rfl (fun w hw => As.at_ (hw.get (i := 0) rfl))) ?_
          refine L.y rfl (Y.move rfl) ?_
          refine L.nil (E.thenN (W.block (W.loopJ (fun m gs D => ∃ (gx12 : Int), gs = [(0, v15), (1, .func (.func 11) #[] #[pt b10 0]), (7, .int .i64 (l14.length : Int)), (8, .int .i64 gx12)] ∧ D = Cls w [] [.obj b10 [.int .i64 gx1] 3, .sl v15 30 3 (l14.map TOp.row), .sl gv2 30 3 (gl3.map TOp.row)] ∧ m6_run_Like_L3 l14 gx1 gl3 go1 m gx12 = some r) ⟨0, rfl, rfl, h⟩ ⟨rfl, rfl, rfl, rfl, trivial⟩ (fun _ hw => hw.sel [1, 0, 2] (by decide) rfl) ?_)))
          rintro m _ _ ⟨gx12, rfl, rfl, h⟩
          rcases m with _ | m
          · rw [m6_run_Like_L3] at h; cases h
          rw [m6_run_Like_L3] at h
          generalize hg3 : m6_run_Like_L3 l14 gx1 gl3 go1 m = go3 at h
          rw [m6_run_Like_L3B] at h
          refine W.seq (W.region (L.ite h rfl (Y.lss rfl rfl) (fun c36 h => ?_) (fun c36 h => ?_)))
          ·
           refine L.nil (E.thenN (W.seq (W.condT rfl ?_)))
           refine W.skip (E.thenN (W.seq (W.block (W.seq (W.region (L.y rfl (Y.move rfl) ?_))))))
           refine L.y rfl (Y.assign rfl) ?_
           refine L.nil (E.thenN (W.seq (W.region (L.y rfl (Y.move rfl) ?_))))
           refine L.y rfl (Y.move rfl) ?_
           refine L.y rfl (Y.move rfl) ?_
           refine L.m (V := fun _ => el v15 (gx12.toNat * 3)) h rfl (Y.indexM (g := TOp.row) (l := l14) Try.underlying22 sz30 rfl rfl (fun w hw => As.at_ (hw.get (i := 1) rfl))) (fun x37 ex37 h => ?_)
           refine L.y rfl (Y.loadEN (r := [.int .i64 x37.Tx, .int .i64 x37.Kind, .int .i64 x37.Item]) ag30 sz30 rfl (fun w hw => As.at_ (hw.get (i := 1) rfl)) (idx_map ex37) rfl) ?_
           refine L.callVJ (fun v D => v = .bool (decide (x37.Tx ≠ gx1)) ∧ D = Cls w [] [.obj b10 [.int .i64 gx1] 3, .sl v15 30 3 (l14.map TOp.row), .sl gv2 30 3 (gl3.map TOp.row)] ∧ m6_run_Like_K12 x37 gx1 gl3 go1 l14 gx12 go3 = some r) rfl en11 rfl rfl Try.func11 rfl rfl rfl ?_ ?_
           ·
            refine W.seq (W.region (L.box rfl rfl ?_))
            intro b39
            refine L.y rfl (Y.assign rfl) ?_
            refine L.nil (E.thenN (W.seq (W.region (L.y rfl (Y.fieldP fd30_0 rfl) ?_))))
            refine L.y rfl (Y.loadP (i := 0) ag3 rfl rfl rfl) ?_
            refine L.y rfl (Y.loadP (i := 1) ag3 rfl rfl rfl) ?_
            refine L.y rfl (Y.neq rfl rfl) ?_
            refine L.y rfl (Y.assign rfl) ?_
            refine L.nil (E.thenN (W.ret (E.ret1 rfl rfl (fun w1 hw => ?_))))
            exact ⟨_, _, rfl, ⟨rfl, rfl, h⟩, hw.sel [1, 2, 3] (by decide) rfl⟩
           ·
            rintro _ _ ⟨rfl, rfl, h⟩
            rw [m6_run_Like_K12] at h
            refine L.nil (E.thenN (W.caseB (q := 16) h rfl (fun h => ?_) (fun h => ?_)))
            ·
             refine W.condT rfl ?_
             refine W.seq (W.region (L.y rfl (Y.move rfl) ?_))
             refine L.y rfl (Y.assign rfl) ?_
             refine L.nil (E.thenN (W.ret (E.blockR (E.thenR (E.KLR (E.blockR (E.KSR (E.ret1 rfl rfl (fun w1 hw => ?_)))))))))
             exact ⟨_, _, rfl, ⟨gx12, rfl, rfl, h⟩, hw⟩
            ·
             refine W.condF rfl ?_
             refine W.skip (E.blockN (E.thenN (W.region (L.m (V := fun x38 => .int .i64 x38) h rfl (Y.addM rfl rfl) (fun x38 ex38 h => ?_)))))
             refine L.y rfl (Y.move rfl) ?_
             exact L.nil (E.againJ ⟨x38, rfl, rfl, by rw [hg3]; exact h⟩ (Nat.lt_succ_self _) ⟨rfl, rfl, rfl, rfl, trivial⟩ (fun _ hw => hw))
          ·
           refine L.nil (E.thenN (W.seq (W.condF rfl ?_)))
           exact W.exit (E.thenX (E.KLX (E.blockX (E.joinJ ⟨rfl, rfl, h⟩ trivial (fun _ hw => hw.sel [0, 2, 1] (by decide) rfl)))))
         ·
          rintro _ _ ⟨rfl, rfl, h⟩
          rw [m6_run_Like_K11] at h
          refine W.seq (W.region (L.y rfl (Y.assign rfl) ?_))
          refine L.nil (E.thenN (W.ret (E.ret1 rfl rfl (fun w1 hw => ?_))))
          exact ⟨_, _, rfl, ⟨(-1), rfl, rfl, h⟩, hw.sel [0, 2, 1] (by decide) rfl⟩
        ·
         rintro _ _ ⟨gx6, rfl, rfl, h⟩
         rw [m6_run_Like_K6] at h
         refine L.y rfl (Y.assign rfl) ?_
         refine L.nil (E.thenN (W.seqJ (fun gs D => gs = [(0, v15), (1, .func (.func 11) #[] #[pt b10 0]), (5, .int .i64 gx6)] ∧ D = Cls w [] [.obj b10 [.int .i64 gx1] 3, .sl v15 30 3 (l14.map TOp.row), .sl gv2 30 3 (gl3.map TOp.row)] ∧ m6_run_Like_K7 gx6 gx1 gl3 go1 l14 = some r) ?_ ?_))
         ·
          refine W.seq (W.region (L.y rfl (Y.move rfl) ?_))
          refine L.ite h rfl (Y.eql rfl rfl) (fun c35 h => ?_) (fun c35 h => ?_)
          ·
           refine L.nil (E.thenN (W.condT rfl ?_))
           refine W.seq (W.region (L.y rfl (Y.move rfl) ?_))
           refine L.y rfl (Y.assign rfl) ?_
           refine L.nil (E.thenN (W.ret (E.KSR (E.ret1 rfl rfl (fun w1 hw => ?_)))))
           exact ⟨_, _, rfl, ⟨v15, l14, rfl, rfl, h⟩, hw.sel [2, 1] (by decide) rfl⟩
          ·
           refine L.nil (E.thenN (W.condF rfl ?_))
           exact W.skip (E.joinJ ⟨rfl, rfl, h⟩ ⟨rfl, rfl, rfl, trivial⟩ (fun _ hw => hw))
         ·
          rintro _ _ ⟨rfl, rfl, h⟩
          rw [m6_run_Like_K7] at h
          refine W.seqJ (fun gs D => ∃ (gl7 : (List TOp)) (gx8 : Int), gs = [(0, v15), (5, .int .i64 gx8)] ∧ D = Cls w [] [.sl v15 30 3 (gl7.map TOp.row), .sl gv2 30 3 (gl3.map TOp.row)] ∧ m6_run_Like_K8 gl3 gx1 go1 gl7 gx8 = some r) ?_ ?_
          ·
           refine W.seq (W.region (L.y rfl (Y.move rfl) ?_))
           refine L.m (V := fun x24 => .int .i64 x24) h rfl (Y.addM rfl rfl) (fun x24 ex24 h => ?_)
           refine L.y rfl (Y.assign rfl) ?_
           refine L.nil (E.thenN (W.block (W.loopJ (fun m gs D => ∃ (gl9 : (List TOp)) (gx10 : Int) (gx11 : Int), gs = [(0, v15), (1, .func (.func 11) #[] #[pt b10 0]), (5, .int .i64 gx10), (6, .int .i64 gx11)] ∧ D = Cls w [] [.obj b10 [.int .i64 gx1] 3, .sl v15 30 3 (gl9.map TOp.row), .sl gv2 30 3 (gl3.map TOp.row)] ∧ m6_run_Like_L2 gx1 gl3 go1 m gl9 gx10 gx11 = some r) ⟨l14, gx6, x24, rfl, rfl, h⟩ ⟨rfl, rfl, rfl, rfl, trivial⟩ (fun _ hw => hw) ?_)))
           rintro m _ _ ⟨gl9, gx10, gx11, rfl, rfl, h⟩
           rcases m with _ | m
           · rw [m6_run_Like_L2] at h; cases h
           rw [m6_run_Like_L2] at h
           generalize hg2 : m6_run_Like_L2 gx1 gl3 go1 m = go2 at h
           rw [m6_run_Like_L2B] at h
           refine W.seqJ (fun gs D => gs = [(0, v15), (1, .func (.func 11) #[] #[pt b10 0]), (5, .int .i64 gx10), (6, .int .i64 gx11)] ∧ D = Cls w [] [.obj b10 [.int .i64 gx1] 3, .sl v15 30 3 (gl9.map TOp.row), .sl gv2 30 3 (gl3.map TOp.row)] ∧ m6_run_Like_K9 gl9 gx11 gx1 gx10 go2 = some r) ?_ ?_
           ·
            refine W.seq (W.region (L.y rfl (Y.move rfl) ?_))
            refine L.y rfl (Y.move rfl) ?_
            refine L.y rfl (Y.lenM (g := TOp.row) (l := gl9) Try.underlying22 rfl (fun w hw => As.at_ (hw.get (i := 1) rfl))) ?_
            refine L.ite h rfl (Y.lss rfl rfl) (fun c34 h => ?_) (fun c34 h => ?_)
            ·
             refine L.nil (E.thenN (W.condT rfl ?_))
             exact W.skip (E.joinJ ⟨rfl, rfl, h⟩ ⟨rfl, rfl, rfl, rfl, trivial⟩ (fun _ hw => hw))
            ·
             refine L.nil (E.thenN (W.condF rfl ?_))
             exact W.exit (E.KSX (E.KLX (E.blockX (E.joinJ ⟨gl9, gx10, rfl, rfl, h⟩ ⟨rfl, rfl, trivial⟩ (fun _ hw => hw.sel [1, 2] (by decide) rfl)))))
           ·
            rintro _ _ ⟨rfl, rfl, h⟩
            rw [m6_run_Like_K9] at h
            refine W.seq (W.block (W.seq (W.region (L.y rfl (Y.move rfl) ?_))))
            refine L.y rfl (Y.move rfl) ?_
            refine L.m (V := fun _ => el v15 (gx11.toNat * 3)) h rfl (Y.indexM (g := TOp.row) (l := gl9) Try.underlying22 sz30 rfl rfl (fun w hw => As.at_ (hw.get (i := 1) rfl))) (fun x25 ex25 h => ?_)
            refine L.y rfl (Y.loadEN (r := [.int .i64 x25.Tx, .int .i64 x25.Kind, .int .i64 x25.Item]) ag30 sz30 rfl (fun w hw => As.at_ (hw.get (i := 1) rfl)) (idx_map ex25) rfl) ?_
            refine L.alloc rfl ze30 ?_
            intro b26
            refine L.store (i := 0) (vs := [.int .i64 x25.Tx, .int .i64 x25.Kind, .int .i64 x25.Item]) sz30 rfl rfl rfl rfl (by simp [Value.oneCell', Value.cells, st, pt, el]) rfl (Nat.le_of_ble_eq_true rfl) ?_
            refine L.nil (E.thenN (W.seq (W.region (L.y rfl (Y.move rfl) ?_))))
            refine L.y rfl (Y.loadPW (i := 0) ag30 sz30 rfl rfl rfl) ?_
            refine L.callVJ (fun v D => v = .bool (decide (x25.Tx ≠ gx1)) ∧ D = Cls w [] [.obj b26 [.int .i64 x25.Tx, .int .i64 x25.Kind, .int .i64 x25.Item] 30, .obj b10 [.int .i64 gx1] 3, .sl v15 30 3 (gl9.map TOp.row), .sl gv2 30 3 (gl3.map TOp.row)] ∧ m6_run_Like_K10 x25 gx1 gl9 gx10 gx11 go2 = some r) rfl en11 rfl rfl Try.func11 rfl rfl rfl ?_ ?_
            ·
             refine W.seq (W.region (L.box rfl rfl ?_))
             intro b33
             refine L.y rfl (Y.assign rfl) ?_
             refine L.nil (E.thenN (W.seq (W.region (L.y rfl (Y.fieldP fd30_0 rfl) ?_))))
             refine L.y rfl (Y.loadP (i := 0) ag3 rfl rfl rfl) ?_
             refine L.y rfl (Y.loadP (i := 2) ag3 rfl rfl rfl) ?_
             refine L.y rfl (Y.neq rfl rfl) ?_
             refine L.y rfl (Y.assign rfl) ?_
             refine L.nil (E.thenN (W.ret (E.ret1 rfl rfl (fun w1 hw => ?_))))
             exact ⟨_, _, rfl, ⟨rfl, rfl, h⟩, hw.sel [1, 2, 3, 4] (by decide) rfl⟩
            ·
             rintro _ _ ⟨rfl, rfl, h⟩
             rw [m6_run_Like_K10] at h
             refine L.iteB h rfl (Y.not rfl) (fun c27 h => ?_) (fun c27 h => ?_)
             ·
              refine L.nil (E.thenN (W.condT rfl ?_))
              refine W.seq (W.region (L.y rfl (Y.move rfl) ?_))
              refine L.y rfl (Y.move rfl) ?_
              refine L.y rfl (Y.loadPW (i := 0) ag30 sz30 rfl rfl rfl) ?_
              refine L.m (V := fun _ => el v15 (gx10.toNat * 3)) h rfl (Y.indexM (g := TOp.row) (l := gl9) Try.underlying22 sz30 rfl rfl (fun w hw => As.at_ (hw.get (i := 2) rfl))) (fun x28 ex28 h => ?_)
              refine L.storeSlM (q := 2) (row := TOp.row) (vs := [.int .i64 x25.Tx, .int .i64 x25.Kind, .int .i64 x25.Item]) (j := 0) (u1 := x25) h sz30 rfl rfl rfl rfl rfl (all1 rfl (all1 rfl (all1 rfl all0))) rfl ex28 rfl rfl ?_
              intro l29 el29 h
              refine L.nil (E.thenN (W.region (L.y rfl (Y.move rfl) ?_)))
              refine L.m (V := fun x30 => .int .i64 x30) h rfl (Y.addM rfl rfl) (fun x30 ex30 h => ?_)
              refine L.y rfl (Y.assign rfl) ?_
              refine L.nil (E.blockN (E.thenN (W.region (L.y rfl (Y.move rfl) ?_))))
              refine L.m (V := fun x31 => .int .i64 x31) h rfl (Y.addM rfl rfl) (fun x31 ex31 h => ?_)
              refine L.y rfl (Y.assign rfl) ?_
              exact L.nil (E.againJ ⟨l29, x30, x31, rfl, rfl, by rw [hg2]; exact h⟩ (Nat.lt_succ_self _) ⟨rfl, rfl, rfl, rfl, trivial⟩ (fun _ hw => hw.sel [1, 2, 3] (by decide) rfl))
             ·
              refine L.nil (E.thenN (W.condF rfl ?_))
              refine W.skip (E.blockN (E.thenN (W.region (L.y rfl (Y.move rfl) ?_))))
              refine L.m (V := fun x32 => .int .i64 x32) h rfl (Y.addM rfl rfl) (fun x32 ex32 h => ?_)
              refine L.y rfl (Y.assign rfl) ?_
              exact L.nil (E.againJ ⟨gl9, gx10, x32, rfl, rfl, by rw [hg2]; exact h⟩ (Nat.lt_succ_self _) ⟨rfl, rfl, rfl, rfl, trivial⟩ (fun _ hw => hw.sel [1, 2, 3] (by decide) rfl))
          ·
           rintro _ _ ⟨gl7, gx8, rfl, rfl, h⟩
           rw [m6_run_Like_K8] at h
           refine W.seq (W.region (L.y rfl (Y.move rfl) ?_))
           refine L.y rfl (Y.move rfl) ?_
           refine L.m (V := fun _ => dropv v15 gx8.toNat 3) h rfl (Y.dropM (g := TOp.row) Try.underlying22 sz30 rfl rfl (fun w hw => As.at_ (hw.get (i := 0) rfl))) (fun l20 el20 h => ?_)
           refine L.clearM (i := 0) (g := TOp.row) (z0 := (⟨0, 0, 0⟩ : TOp)) (a := gx8) h Try.underlying22 eL30 ze30 (fun u hu => ((plain_TOp _) : Plain ([(⟨0, 0, 0⟩ : TOp)].map TOp.row)) _ (List.mem_cons_self ..) u hu) rfl rfl ?_
           intro l21 el21 h
           refine L.nil (E.thenN (W.seq (W.region (L.y rfl (Y.move rfl) ?_))))
           refine L.y rfl (Y.move rfl) ?_
           obtain ⟨l22, el22, h⟩ := bind1S h
           refine L.cutM (i := 0) (g := TOp.row) el22 rfl Try.underlying22 sz30 rfl rfl rfl (fun v23 => ?_)
           refine L.y rfl (Y.assign rfl) ?_
           refine L.nil (E.thenN (W.ret (E.ret1 rfl rfl (fun w1 hw => ?_))))
           exact ⟨_, _, rfl, ⟨v23, l22, rfl, rfl, h⟩, hw.sel [1, 0] (by decide) rfl⟩
       ·
        rintro gv4 _ ⟨_, gl5, rfl, rfl, h⟩
        rw [m6_run_Like_K5] at h
        obtain ⟨b17, e18, h⟩ := bind1S h
        refine L.y rfl (Y.does en12 rfl (fun w' hw => (w12_api_Op gl3 gl5 gv2 gv4 w' _ e18 (As.at_ (hw.get (i := 0) rfl)) (As.at_ (hw.get (i := 1) rfl))).mono (fun _ _ h => h.1))) ?_
        rcases b17 with _ | _
        ·
         replace h := iteF h
         refine L.y rfl (Y.not rfl) ?_
         refine L.nil (E.thenN (W.condT rfl ?_))
         refine W.seq (W.region (L.y rfl (Y.assign rfl) ?_))
         refine L.y rfl (Y.assign rfl) ?_
         refine L.nil (E.thenN (W.ret (E.blockR (E.thenR (E.KLR (E.blockR (E.KSR (E.ret2 rfl rfl rfl (fun w1 hw => ?_)))))))))
         obtain rfl := Option.some.inj h
         exact ⟨_, _, rfl, ⟨rfl, rfl⟩, hw.sel [] (by decide) rfl⟩
        ·
         replace h := iteT h
         refine L.y rfl (Y.not rfl) ?_
         refine L.nil (E.thenN (W.condF rfl ?_))
         refine W.skip (E.blockN (E.thenN (W.region (L.m (V := fun x19 => .int .i64 x19) h rfl (Y.addM rfl rfl) (fun x19 ex19 h => ?_)))))
         refine L.y rfl (Y.move rfl) ?_
         exact L.nil (E.againJ ⟨x19, rfl, rfl, by rw [hg1]; exact h⟩ (Nat.lt_succ_self _) ⟨rfl, rfl, rfl, trivial⟩ (fun _ hw => hw.sel [] (by decide) rfl))
     ·
      refine L.nil (E.thenN (W.seq (W.condF rfl ?_)))
      exact W.exit (E.thenX (E.KLX (E.blockX (E.joinJ ⟨rfl, rfl, h⟩ ⟨rfl, rfl, trivial⟩ (fun _ hw => hw)))))
    ·
     rintro _ _ ⟨rfl, rfl, h⟩
     rw [m6_run_Like_K3] at h
     refine W.seq (W.region (L.y rfl (Y.move rfl) ?_))
     obtain ⟨l1, e3, h⟩ := bind1S h
     refine L.does rfl en16 rfl (fun w' hw => w16_run_pairs a0 u0 w' _ e3 (hA0.cls0 hw)) ?_
     rintro v2 _ ⟨_, rfl, rfl⟩
     refine L.y rfl (Y.move rfl) ?_
     obtain ⟨l4, e6, h⟩ := bind1S h
     refine L.does rfl en16 rfl (fun w' hw => w16_run_pairs a1 u1 w' _ e6 (hA1.cls0 hw)) ?_
     rintro v5 _ ⟨_, rfl, rfl⟩
     obtain ⟨b7, e8, h⟩ := bind1S h
     refine L.y rfl (Y.does en15 rfl (fun w' hw => (w15_run_pair l1 l4 v2 v5 w' _ e8 (As.at_ (hw.get (i := 1) rfl)) (As.at_ (hw.get (i := 0) rfl))).mono (fun _ _ h => h.1))) ?_
     refine L.y rfl (Y.assign rfl) ?_
     refine L.y rfl (Y.assign rfl) ?_
     refine L.nil (E.thenN (W.ret (E.ret2 rfl rfl rfl (fun w1 hw => ?_))))
     obtain rfl := Option.some.inj h
     exact ⟨_, _, rfl, ⟨rfl, rfl⟩, hw.sel [] (by decide) rfl⟩
set_option maxRecDepth 100000 in
set_option maxHeartbeats 8000000 in
theorem w32_see_names (a0 : (List TOp)) (u0 : Value) (w : World) (r : (List Tname)) (h : m32_see_names a0 = some r) (hA0 : At w u0 3 (a0.map TOp.row)) : Does Try.prog 32 [u0] w fun u m => ∃ v0, u = v0 ∧ m = [.sl v0 41 2 (r.map Tname.row)] := by
  rw [m32_see_names] at h
  refine body (n := 31) Try.func32 rfl rfl rfl (Cls.refl w) ?_
  refine W.seq (W.region (L.y rfl (Y.assign rfl) ?_))
  refine L.nil (E.thenN (W.seq (W.region (L.alloc rfl ze61 ?_))))
  intro b1
  refine L.to (D := Cls w [] [.obj b1 (((List.replicate 12 (0 : Int)).map I).flatten) 61]) (fun _ hw => by first | exact hw | simpa [I, B, SR] using hw) ?_
  refine L.nil (E.thenN (W.seq (W.region (L.y rfl (Y.assign rfl) ?_))))
  refine L.nil (E.thenN (W.seqJ (fun gs D => ∃ (gv1 : Value) (gl2 : (List Tname)), gs = [(4, gv1)] ∧ D = Cls w [] [.sl gv1 41 2 (gl2.map Tname.row)] ∧ m32_see_names_K1 gl2 = some r) ?_ ?_))
  ·
   refine W.seq (W.region (L.y rfl (Y.move rfl) ?_))
   refine L.y rfl (Y.lenM (g := TOp.row) (l := a0) Try.underlying22 rfl (fun w' hw => hA0.cls0 hw)) ?_
   refine L.y rfl (Y.move rfl) ?_
   refine L.nil (E.thenN (W.block (W.nilSl 41 2 ?_)))
   refine W.loopJ (fun m gs D => ∃ (gv3 : Value) (gl4 : (List Tname)) (gx5 : Int) (gl6 : (List Int)), gs = [(3, pt b1 0), (4, gv3), (7, u0), (8, .int .i64 (a0.length : Int)), (9, .int .i64 gx5)] ∧ D = Cls w [] [.obj b1 ((gl6.map I).flatten) 61, .sl gv3 41 2 (gl4.map Tname.row)] ∧ m32_see_names_L1 a0 m gl4 gx5 gl6 = some r) ⟨.slice none 0 0, [], 0, (List.replicate 12 (0 : Int)), rfl, rfl, h⟩ ⟨rfl, rfl, rfl, rfl, rfl, trivial⟩ (fun _ hw => hw.sel [1, 0] (by decide) rfl) ?_
   rintro m _ _ ⟨gv3, gl4, gx5, gl6, rfl, rfl, h⟩
   rcases m with _ | m
   · rw [m32_see_names_L1] at h; cases h
   rw [m32_see_names_L1] at h
   generalize hg1 : m32_see_names_L1 a0 m = go1 at h
   rw [m32_see_names_L1B] at h
   refine W.seq (W.region (L.ite h rfl (Y.lss rfl rfl) (fun c2 h => ?_) (fun c2 h => ?_)))
   ·
    refine L.nil (E.thenN (W.seq (W.condT rfl ?_)))
    refine W.skip (E.thenN (W.seq (W.block (W.seq (W.region (L.m (V := fun _ => el u0 (gx5.toNat * 3)) h rfl (Y.indexM (g := TOp.row) (l := a0) Try.underlying22 sz30 rfl rfl (fun w' hw => hA0.cls0 hw)) (fun x3 ex3 h => ?_)))))))
    refine L.y rfl (Y.loadEN (r := [.int .i64 x3.Tx, .int .i64 x3.Kind, .int .i64 x3.Item]) ag30 sz30 rfl (fun w' hw => hA0.cls0 hw) (idx_map ex3) rfl) ?_
    refine L.alloc rfl ze30 ?_
    intro b4
    refine L.store (i := 0) (vs := [.int .i64 x3.Tx, .int .i64 x3.Kind, .int .i64 x3.Item]) sz30 rfl rfl rfl rfl (by simp [Value.oneCell', Value.cells, st, pt, el]) rfl (Nat.le_of_ble_eq_true rfl) ?_
    refine L.nil (E.thenN (W.seq (W.drawn2 (k := 11) (stC [[9]] [Cls w [] [.obj b4 [.int .i64 x3.Tx, .int .i64 x3.Kind, .int .i64 x3.Item] 30, .obj b1 ((gl6.map I).flatten) 61, .sl gv3 41 2 (gl4.map Tname.row)]] (Cls w [] [.obj b4 [.int .i64 x3.Tx, .int .i64 x3.Kind, .int .i64 x3.Item] 30, .obj b1 ((gl6.map I).flatten) 61])) rfl mixed (fun _ hw => hw.drew) (Sc.now (by kernel_rfl) (fun _ hw => hw)) ?_)))
    refine V2.y (i := 0) (Nx2.of (Z := Cls w [] [.obj b4 [.int .i64 x3.Tx, .int .i64 x3.Kind, .int .i64 x3.Item] 30, .obj b1 ((gl6.map I).flatten) 61]) [] (by kernel_rfl) rfl (Zc.on (fun _ hw => hw.sel [0, 1] (by decide) rfl) (Zc.fin (fun _ hw => hw)))) rfl rfl rfl (Y.move rfl) ?_
    refine V2.y (i := 1) (Nx2.of (Z := Cls w [] [.obj b4 [.int .i64 x3.Tx, .int .i64 x3.Kind, .int .i64 x3.Item] 30, .obj b1 ((gl6.map I).flatten) 61]) [] (by kernel_rfl) rfl (Zc.on (fun _ hw => hw.sel [0, 1] (by decide) rfl) (Zc.fin (fun _ hw => hw)))) rfl rfl rfl (Y.fieldP fd30_0 rfl) ?_
    refine V2.y (i := 2) (Nx2.of (Z := Cls w [] [.obj b4 [.int .i64 x3.Tx, .int .i64 x3.Kind, .int .i64 x3.Item] 30, .obj b1 ((gl6.map I).flatten) 61]) [] (by kernel_rfl) rfl (Zc.on (fun _ hw => hw.sel [0, 1] (by decide) rfl) (Zc.fin (fun _ hw => hw)))) rfl rfl rfl (Y.loadP (i := 0) ag3 rfl rfl rfl) ?_
    refine V2.y (i := 3) (Nx2.of (Z := Cls w [] [.obj b4 [.int .i64 x3.Tx, .int .i64 x3.Kind, .int .i64 x3.Item] 30, .obj b1 ((gl6.map I).flatten) 61]) [] (by kernel_rfl) rfl (Zc.on (fun _ hw => hw.sel [0, 1] (by decide) rfl) (Zc.fin (fun _ hw => hw)))) rfl rfl rfl (Y.fieldP fd30_0 rfl) ?_
    refine V2.y (i := 4) (Nx2.of (Z := Cls w [] [.obj b4 [.int .i64 x3.Tx, .int .i64 x3.Kind, .int .i64 x3.Item] 30, .obj b1 ((gl6.map I).flatten) 61]) [] (by kernel_rfl) rfl (Zc.on (fun _ hw => hw.sel [0, 1] (by decide) rfl) (Zc.fin (fun _ hw => hw)))) rfl rfl rfl (Y.loadP (i := 0) ag3 rfl rfl rfl) ?_
    refine V2.m (i := 5) (V' := fun _ => pt b1 (0 + x3.Tx.toNat * 1)) h (Nx2.of (Z := Cls w [] [.obj b4 [.int .i64 x3.Tx, .int .i64 x3.Kind, .int .i64 x3.Item] 30, .obj b1 ((gl6.map I).flatten) 61]) [] (by kernel_rfl) rfl (Zc.on (fun _ hw => hw.sel [0, 1] (by decide) rfl) (Zc.fin (fun _ hw => hw)))) rfl rfl rfl (Y.indexAM (l := gl6) Try.underlying61 sz3 rfl rfl) (fun x9 ex9 h => ?_)
    refine V2.y (i := 6) (Nx2.of (Z := Cls w [] [.obj b4 [.int .i64 x3.Tx, .int .i64 x3.Kind, .int .i64 x3.Item] 30, .obj b1 ((gl6.map I).flatten) 61]) [] (by kernel_rfl) rfl (Zc.on (fun _ hw => hw.sel [0, 1] (by decide) rfl) (Zc.fin (fun _ hw => hw)))) rfl rfl rfl (Y.loadAr (q := 1) (row := I) (j := 0) (p := .int .i64 x9) ag3 rfl rfl rfl (fun _ => rfl) (idxA_idx ex9) rfl) ?_
    refine V2.y (i := 7) (Nx2.of (Z := Cls w [] [.obj b4 [.int .i64 x3.Tx, .int .i64 x3.Kind, .int .i64 x3.Item] 30, .obj b1 ((gl6.map I).flatten) 61]) [] (by kernel_rfl) rfl (Zc.on (fun _ hw => hw.sel [0, 1] (by decide) rfl) (Zc.fin (fun _ hw => hw)))) rfl rfl rfl (Y.build (cells := #[.int .i64 x3.Tx, .int .i64 x9]) rfl (by kernel_rfl)) ?_
    refine V2.eff (i := 8) (by kernel_rfl) rfl ?_
    refine L.litAgg rfl Try.underlying66 eL41 rfl rfl rfl ?_
    intro b10
    refine L.nil (E.toV2 (stC [[9]] [Cls w [] [.sl (sv b10 1) 41 2 (([(⟨x3.Tx, x9⟩ : Tname)]).map Tname.row), .obj b4 [.int .i64 x3.Tx, .int .i64 x3.Kind, .int .i64 x3.Item] 30, .obj b1 ((gl6.map I).flatten) 61, .sl gv3 41 2 (gl4.map Tname.row)]] (Cls w [] [.sl (sv b10 1) 41 2 (([(⟨x3.Tx, x9⟩ : Tname)]).map Tname.row), .obj b4 [.int .i64 x3.Tx, .int .i64 x3.Kind, .int .i64 x3.Item] 30, .obj b1 ((gl6.map I).flatten) 61])) 8 (by kernel_rfl) (Sc.stay (fun _ hw => hw.sel [1, 2, 3] (by decide) rfl) (Sc.stayD (fun _ hw => hw.sel [1, 2] (by decide) rfl))) (Sc.now (by kernel_rfl) (fun _ hw => hw)) ?_)
    refine V2.eff (i := 9) (by kernel_rfl) rfl ?_
    refine L.appM (i := 3) (g := Tname.row) (l := gl4) (more := [(⟨x3.Tx, x9⟩ : Tname)]) h rfl Try.underlying66 eL41 rfl rfl rfl (fun w hw => As.at_ (hw.get (i := 0) rfl)) (plain_Tname _) rfl ?_
    intro v11 l12 el12 h
    refine L.nil (E.toV2 (stC [] [] (Cls w [] [.sl v11 41 2 (l12.map Tname.row), .sl (sv b10 1) 41 2 (([(⟨x3.Tx, x9⟩ : Tname)]).map Tname.row), .obj b4 [.int .i64 x3.Tx, .int .i64 x3.Kind, .int .i64 x3.Item] 30, .obj b1 ((gl6.map I).flatten) 61])) 9 (by kernel_rfl) (Sc.past rfl (Sc.stayD (fun _ hw => hw.sel [1, 2, 3] (by decide) rfl))) (Sc.atD (fun _ hw => hw)) ?_)
    refine V2.y (i := 10) (Nx2.of (Z := Cls w [] [.sl v11 41 2 (l12.map Tname.row), .sl (sv b10 1) 41 2 (([(⟨x3.Tx, x9⟩ : Tname)]).map Tname.row), .obj b4 [.int .i64 x3.Tx, .int .i64 x3.Kind, .int .i64 x3.Item] 30, .obj b1 ((gl6.map I).flatten) 61]) [] (by kernel_rfl) rfl (Zc.fin (fun _ hw => hw))) rfl rfl rfl (Y.assign rfl) ?_
    refine V2.done (by kernel_rfl) ?_
    refine E.thenN (W.region (L.y rfl (Y.fieldP fd30_0 rfl) ?_))
    refine L.y rfl (Y.loadP (i := 2) ag3 rfl rfl rfl) ?_
    refine L.m (V := fun _ => pt b1 (0 + x3.Tx.toNat * 1)) h rfl (Y.indexAM (l := gl6) Try.underlying61 sz3 rfl rfl) (fun x13 ex13 h => ?_)
    refine L.y rfl (Y.loadAr (q := 3) (row := I) (j := 0) (p := .int .i64 x13) ag3 rfl rfl rfl (fun _ => rfl) (idxA_idx ex13) rfl) ?_
    refine L.m (V := fun x14 => .int .i64 x14) h rfl (Y.addM rfl rfl) (fun x14 ex14 h => ?_)
    refine L.m (V := fun _ => pt b1 (0 + x3.Tx.toNat * 1)) h rfl (Y.indexAM (l := gl6) Try.underlying61 sz3 rfl rfl) (fun x15 ex15 h => ?_)
    refine L.storeArM (q := 3) (row := I) (vs := [.int .i64 x14]) (j := 0) (u1 := x14) h sz3 rfl rfl rfl rfl rfl (all1 rfl all0) rfl (fun _ => rfl) (idxA_idx ex15) rfl rfl ?_
    intro l16 el16 h
    refine L.nil (E.blockN (E.thenN (W.region (L.m (V := fun x17 => .int .i64 x17) h rfl (Y.addM rfl rfl) (fun x17 ex17 h => ?_)))))
    refine L.y rfl (Y.move rfl) ?_
    exact L.nil (E.againJ ⟨v11, l12, x17, l16, rfl, rfl, by rw [hg1]; exact h⟩ (Nat.lt_succ_self _) ⟨rfl, rfl, rfl, rfl, rfl, trivial⟩ (fun _ hw => hw.sel [3, 0] (by decide) rfl))
   ·
    refine L.nil (E.thenN (W.seq (W.condF rfl ?_)))
    exact W.exit (E.thenX (E.KLX (E.blockX (E.joinJ ⟨gv3, gl4, rfl, rfl, h⟩ ⟨rfl, trivial⟩ (fun _ hw => hw.sel [1] (by decide) rfl)))))
  ·
   rintro _ _ ⟨gv1, gl2, rfl, rfl, h⟩
   rw [m32_see_names_K1] at h
   refine W.seq (W.region (L.y rfl (Y.move rfl) ?_))
   refine L.y rfl (Y.assign rfl) ?_
   refine L.nil (E.thenN (W.ret (E.ret1 rfl rfl (fun w1 hw => ?_))))
   obtain rfl := Option.some.inj h
   exact ⟨_, _, rfl, ⟨_, rfl, rfl⟩, hw⟩
set_option maxRecDepth 100000 in
set_option maxHeartbeats 8000000 in
theorem w34_see_Reads (a0 : (List TOp)) (u0 : Value) (w : World) (r : ((List TSeen) × Int)) (h : m34_see_Reads a0 = some r) (hA0 : At w u0 3 (a0.map TOp.row)) : Does Try.prog 34 [u0] w fun u m => ∃ v0, u = .tuple #[v0, .int .i64 r.2] ∧ m = [.sl v0 53 2 (r.1.map TSeen.row)] := by
  rw [m34_see_Reads] at h
  refine body (n := 76) Try.func34 rfl rfl rfl (Cls.refl w) ?_
  refine W.seq (W.region (L.boxV rfl rfl (fun _ hw => (hA0.cls0 hw).one) ?_))
  intro b1
  refine L.y rfl (Y.assign rfl) ?_
  refine L.y rfl (Y.assign rfl) ?_
  refine L.nil (E.thenN (W.seqJ (fun gs D => gs = [(1, pt b1 0)] ∧ D = Cls w [] [.obj b1 [u0] 22] ∧ m34_see_Reads_K1 a0 = some r) ?_ ?_))
  ·
   refine W.seq (W.region (L.y rfl (Y.loadP (i := 0) ag22 rfl rfl rfl) ?_))
   obtain ⟨x70, e71, h⟩ := bind1S h
   refine L.y rfl (Y.does en10 rfl (fun w' hw => (w10_run_Check a0 u0 w' _ e71 (hA0.cls0 hw)).mono (fun _ _ h => h.1))) ?_
   refine L.y rfl (Y.assign rfl) ?_
   refine L.nil (E.thenN (W.seq (W.region (L.y rfl (Y.move rfl) ?_))))
   refine L.ite h rfl (Y.neq rfl rfl) (fun c72 h => ?_) (fun c72 h => ?_)
   ·
    refine L.nil (E.thenN (W.condT rfl ?_))
    refine W.seq (W.region (L.y rfl (Y.move rfl) ?_))
    refine L.y rfl (Y.assign rfl) ?_
    refine L.y rfl (Y.assign rfl) ?_
    refine L.nil (E.thenN (W.ret (E.KSR (E.ret2 rfl rfl rfl (fun w1 hw => ?_)))))
    obtain rfl := Option.some.inj h
    exact ⟨_, _, rfl, ⟨_, rfl, rfl⟩, (hw.nilSl 53 2).sel [0] (by decide) rfl⟩
   ·
    refine L.nil (E.thenN (W.condF rfl ?_))
    exact W.skip (E.joinJ ⟨rfl, rfl, h⟩ ⟨rfl, trivial⟩ (fun _ hw => hw))
  ·
   rintro _ _ ⟨rfl, rfl, h⟩
   rw [m34_see_Reads_K1] at h
   refine W.seq (W.region (L.alloc rfl ze78 ?_))
   intro b2
   refine L.ssNew (row := svRow) (sds := (svSd 3 1 I)) (vs := (fun _ => [nilV])) (xs := (List.replicate 20 ([] : (List Int)))) rfl (zs_repl (gall1 rfl rfl gall0) _) ?_
   refine L.nil (E.thenN (W.seq (W.region (L.y rfl (Y.assign rfl) ?_))))
   refine L.nil (E.thenN (W.seqJ (fun gs D => ∃ (gv1 : Value) (gl2 : (List TSeen)), gs = [(6, gv1)] ∧ D = Cls w [] [.sl gv1 53 2 (gl2.map TSeen.row)] ∧ m34_see_Reads_K2 gl2 = some r) ?_ ?_))
   ·
    refine W.seq (W.region (L.y rfl (Y.loadP (i := 2) ag22 rfl rfl rfl) ?_))
    refine L.y rfl (Y.lenM (g := TOp.row) (l := a0) Try.underlying22 rfl (fun w' hw => hA0.cls0 hw)) ?_
    refine L.y rfl (Y.move rfl) ?_
    refine L.nil (E.thenN (W.block (W.nilSl 53 2 ?_)))
    refine W.loopJ (fun m gs D => ∃ (gv3 : Value) (gl4 : (List TSeen)) (gx5 : Int) (gl6 : (List (List Int))) (gq7 : Nat → List Value), gs = [(1, pt b1 0), (5, pt b2 0), (6, gv3), (17, u0), (18, .int .i64 (a0.length : Int)), (19, .int .i64 gx5)] ∧ D = Cls w [] [.obj b2 (zr svRow gq7 gl6).flatten 78, .ss (zs (svSd 3 1 I) gq7 gl6), .obj b1 [u0] 22, .sl gv3 53 2 (gl4.map TSeen.row)] ∧ m34_see_Reads_L1 a0 m gl4 gx5 gl6 = some r) ⟨.slice none 0 0, [], 0, (List.replicate 20 ([] : (List Int))), (fun _ => [nilV]), rfl, rfl, h⟩ ⟨rfl, rfl, rfl, rfl, rfl, rfl, trivial⟩ (fun _ hw => hw.sel [1, 2, 3, 0] (by decide) rfl) ?_
    rintro m _ _ ⟨gv3, gl4, gx5, gl6, gq7, rfl, rfl, h⟩
    rcases m with _ | m
    · rw [m34_see_Reads_L1] at h; cases h
    rw [m34_see_Reads_L1] at h
    generalize hg1 : m34_see_Reads_L1 a0 m = go1 at h
    rw [m34_see_Reads_L1B] at h
    refine W.seq (W.region (L.ite h rfl (Y.lss rfl rfl) (fun c3 h => ?_) (fun c3 h => ?_)))
    ·
     refine L.nil (E.thenN (W.seq (W.condT rfl ?_)))
     refine W.skip (E.thenN (W.seqJ (fun gs D => ∃ (gv8 : Value) (gl9 : (List TSeen)) (gl10 : (List (List Int))) (gq11 : Nat → List Value), gs = [(1, pt b1 0), (5, pt b2 0), (6, gv8), (17, u0), (18, .int .i64 (a0.length : Int)), (19, .int .i64 gx5)] ∧ D = Cls w [] [.obj b2 (zr svRow gq11 gl10).flatten 78, .ss (zs (svSd 3 1 I) gq11 gl10), .obj b1 [u0] 22, .sl gv8 53 2 (gl9.map TSeen.row)] ∧ m34_see_Reads_K3 gx5 go1 gl9 gl10 = some r) ?_ ?_))
     ·
      refine W.block (W.seq (W.region (L.y rfl (Y.move rfl) ?_)))
      refine L.m (V := fun _ => el u0 (gx5.toNat * 3)) h rfl (Y.indexM (g := TOp.row) (l := a0) Try.underlying22 sz30 rfl rfl (fun w' hw => hA0.cls0 hw)) (fun x5 ex5 h => ?_)
      refine L.y rfl (Y.loadEN (r := [.int .i64 x5.Tx, .int .i64 x5.Kind, .int .i64 x5.Item]) ag30 sz30 rfl (fun w' hw => hA0.cls0 hw) (idx_map ex5) rfl) ?_
      refine L.alloc rfl ze30 ?_
      intro b6
      refine L.y rfl (Y.assign rfl) ?_
      refine L.store (i := 0) (vs := [.int .i64 x5.Tx, .int .i64 x5.Kind, .int .i64 x5.Item]) sz30 rfl rfl rfl rfl (by simp [Value.oneCell', Value.cells, st, pt, el]) rfl (Nat.le_of_ble_eq_true rfl) ?_
      refine L.nil (E.thenN (W.seq (W.region (L.y rfl (Y.fieldP fd30_1 rfl) ?_))))
      refine L.y rfl (Y.loadP (i := 0) ag3 rfl rfl rfl) ?_
      refine L.nil (E.thenN (W.block (W.seqJ (fun gs D => ∃ (gb12 : Bool), gs = [(1, pt b1 0), (5, pt b2 0), (6, gv3), (7, .int .i64 gx5), (8, pt b6 0), (17, u0), (18, .int .i64 (a0.length : Int)), (19, .int .i64 gx5), (25, .int .i64 x5.Kind), (26, .bool gb12)] ∧ D = Cls w [] [.obj b6 [.int .i64 x5.Tx, .int .i64 x5.Kind, .int .i64 x5.Item] 30, .obj b2 (zr svRow gq7 gl6).flatten 78, .ss (zs (svSd 3 1 I) gq7 gl6), .obj b1 [u0] 22, .sl gv3 53 2 (gl4.map TSeen.row)] ∧ m34_see_Reads_K4 gl6 x5 gl4 gx5 go1 a0 gb12 = some r) ?_ ?_)))
      ·
       refine W.region (L.ite h rfl (Y.eql rfl rfl) (fun c69 h => ?_) (fun c69 h => ?_))
       ·
        refine L.y rfl (Y.assign rfl) ?_
        exact L.nil (E.joinJ ⟨true, rfl, rfl, h⟩ ⟨rfl, rfl, rfl, rfl, rfl, rfl, rfl, rfl, rfl, rfl, trivial⟩ (fun _ hw => hw))
       ·
        refine L.y rfl (Y.assign rfl) ?_
        exact L.nil (E.joinJ ⟨false, rfl, rfl, h⟩ ⟨rfl, rfl, rfl, rfl, rfl, rfl, rfl, rfl, rfl, rfl, trivial⟩ (fun _ hw => hw))
      ·
       rintro _ _ ⟨gb12, rfl, rfl, h⟩
       rw [m34_see_Reads_K4] at h
       rcases gb12 with _ | _
       ·
        replace h := iteF h
        refine W.condF rfl ?_
        refine W.seqJ (fun gs D => ∃ (gb13 : Bool), gs = [(1, pt b1 0), (5, pt b2 0), (6, gv3), (7, .int .i64 gx5), (8, pt b6 0), (17, u0), (18, .int .i64 (a0.length : Int)), (19, .int .i64 gx5), (25, .int .i64 x5.Kind), (49, .bool gb13)] ∧ D = Cls w [] [.obj b6 [.int .i64 x5.Tx, .int .i64 x5.Kind, .int .i64 x5.Item] 30, .obj b2 (zr svRow gq7 gl6).flatten 78, .ss (zs (svSd 3 1 I) gq7 gl6), .obj b1 [u0] 22, .sl gv3 53 2 (gl4.map TSeen.row)] ∧ m34_see_Reads_K5 gl6 x5 gx5 go1 gl4 a0 gb13 = some r) ?_ ?_
        ·
         refine W.region (L.ite h rfl (Y.eql rfl rfl) (fun c57 h => ?_) (fun c57 h => ?_))
         ·
          refine L.y rfl (Y.assign rfl) ?_
          exact L.nil (E.joinJ ⟨true, rfl, rfl, h⟩ ⟨rfl, rfl, rfl, rfl, rfl, rfl, rfl, rfl, rfl, rfl, trivial⟩ (fun _ hw => hw))
         ·
          refine L.y rfl (Y.assign rfl) ?_
          exact L.nil (E.joinJ ⟨false, rfl, rfl, h⟩ ⟨rfl, rfl, rfl, rfl, rfl, rfl, rfl, rfl, rfl, rfl, trivial⟩ (fun _ hw => hw))
        ·
         rintro _ _ ⟨gb13, rfl, rfl, h⟩
         rw [m34_see_Reads_K5] at h
         rcases gb13 with _ | _
         ·
          replace h := iteF h
          refine W.condF rfl ?_
          refine W.seq (W.region (L.ite h rfl (Y.eql rfl rfl) (fun c7 h => ?_) (fun c7 h => ?_)))
          ·
           refine L.y rfl (Y.assign rfl) ?_
           refine L.nil (E.thenN (W.condT rfl ?_))
           refine W.seq (W.region (L.y rfl (Y.move rfl) ?_))
           refine L.nil (E.thenN (W.block (W.loopJ (fun m gs D => ∃ (gx14 : Int) (gl15 : (List (List Int))) (gq16 : Nat → List Value), gs = [(1, pt b1 0), (5, pt b2 0), (6, gv3), (8, pt b6 0), (17, u0), (18, .int .i64 (a0.length : Int)), (19, .int .i64 gx5), (63, .int .i64 gx14)] ∧ D = Cls w [] [.obj b6 [.int .i64 x5.Tx, .int .i64 x5.Kind, .int .i64 x5.Item] 30, .obj b2 (zr svRow gq16 gl15).flatten 78, .ss (zs (svSd 3 1 I) gq16 gl15), .obj b1 [u0] 22, .sl gv3 53 2 (gl4.map TSeen.row)] ∧ m34_see_Reads_L2 a0 x5 gx5 go1 gl4 m gx14 gl15 = some r) ⟨0, gl6, gq7, rfl, rfl, h⟩ ⟨rfl, rfl, rfl, rfl, rfl, rfl, rfl, rfl, trivial⟩ (fun _ hw => hw) ?_)))
           rintro m _ _ ⟨gx14, gl15, gq16, rfl, rfl, h⟩
           rcases m with _ | m
           · rw [m34_see_Reads_L2] at h; cases h
           rw [m34_see_Reads_L2] at h
           generalize hg2 : m34_see_Reads_L2 a0 x5 gx5 go1 gl4 m = go2 at h
           rw [m34_see_Reads_L2B] at h
           refine W.seq (W.region (L.ite h rfl (Y.lss rfl rfl) (fun c8 h => ?_) (fun c8 h => ?_)))
           ·
            refine L.nil (E.thenN (W.seq (W.condT rfl ?_)))
            refine W.skip (E.thenN (W.seq (W.block (W.seq (W.region (L.y rfl (Y.move rfl) ?_))))))
            refine L.y rfl (Y.assign rfl) ?_
            refine L.nil (E.thenN (W.region (L.y rfl (Y.move rfl) ?_)))
            refine L.y rfl (Y.move rfl) ?_
            refine L.m (V := fun _ => pt b2 (0 + gx14.toNat * 1)) h rfl (Y.indexAM (l := gl15) Try.underlying78 sz62 rfl rfl) (fun x9 ex9 h => ?_)
            refine L.y rfl (Y.loadZ (q := 1) (row := svRow) (vs := gq16) (j := 0) (pv := gv (gq16 gx14.toNat) 0) ag62 rfl rfl rfl (fun _ _ => rfl) (idxA_idx ex9) rfl) ?_
            refine L.y rfl (Y.func rfl) ?_
            refine L.ssOut (sds := (svSd 3 1 I)) (vs := gq16) (s := 2) (j := 0) (c := 1) rfl (fun _ _ => rfl) (idxA_idx ex9) rfl ?_
            refine L.callJ (fun v D => ∃ (gv17 : Value) (gl18 : (List Int)), v = gv17 ∧ D = Cls w [] [.obj b6 [.int .i64 x5.Tx, .int .i64 x5.Kind, .int .i64 x5.Item] 30, .obj b2 (zr svRow gq16 gl15).flatten 78, .ss ((zs (svSd 3 1 I) gq16 gl15).set (gx14.toNat * 1 + 0) (Sd.nil 0 0)), .obj b1 [u0] 22, .sl gv3 53 2 (gl4.map TSeen.row), .sl gv17 3 1 (gl18.map I)] ∧ m34_see_Reads_K6 gl15 gx14 go2 gl18 = some r) rfl en41 rfl Try.func41 rfl rfl rfl ?_ ?_
            ·
             refine W.seq (W.region (L.y rfl (Y.assign rfl) ?_))
             refine L.nil (E.thenN (W.seq (W.region (L.y rfl (Y.move rfl) ?_))))
             refine L.y rfl (Y.move rfl) ?_
             refine L.callJ (fun v D => ∃ (gx19 : Int), v = .int .i64 gx19 ∧ D = Cls w [] [.obj b6 [.int .i64 x5.Tx, .int .i64 x5.Kind, .int .i64 x5.Item] 30, .obj b2 (zr svRow gq16 gl15).flatten 78, .ss ((zs (svSd 3 1 I) gq16 gl15).set (gx14.toNat * 1 + 0) (Sd.nil 0 0)), .obj b1 [u0] 22, .sl (gv (gq16 gx14.toNat) 0) 3 1 (x9.map I), .sl gv3 53 2 (gl4.map TSeen.row)] ∧ m34_see_Reads_K7 gl15 gx14 go2 x9 a0 x5 gx19 = some r) rfl en55 rfl Try.func55 rfl rfl rfl ?_ ?_
             ·
              refine W.seq (W.region (L.y rfl (Y.assign rfl) ?_))
              refine L.nil (E.thenN (W.seqJ (fun gs D => gs = [] ∧ D = Cls w [] [.obj b6 [.int .i64 x5.Tx, .int .i64 x5.Kind, .int .i64 x5.Item] 30, .obj b2 (zr svRow gq16 gl15).flatten 78, .ss ((zs (svSd 3 1 I) gq16 gl15).set (gx14.toNat * 1 + 0) (Sd.nil 0 0)), .obj b1 [u0] 22, .sl (gv (gq16 gx14.toNat) 0) 3 1 (x9.map I), .sl gv3 53 2 (gl4.map TSeen.row)] ∧ m34_see_Reads_K12 gl15 gx14 go2 x9 a0 x5 = some r) ?_ ?_))
              ·
               refine W.seq (W.region (L.y rfl (Y.move rfl) ?_))
               refine L.y rfl (Y.lenM (g := I) (l := x9) Try.underlying62 rfl (fun w hw => As.at_ (hw.get (i := 0) rfl))) ?_
               refine L.y rfl (Y.move rfl) ?_
               refine L.nil (E.thenN (W.block (W.loopJ (fun m gs D => ∃ (gx26 : Int), gs = [(0, gv (gq16 gx14.toNat) 0), (1, .func (.func 42) #[] #[pt b1 0, pt b6 0]), (7, .int .i64 (x9.length : Int)), (8, .int .i64 gx26)] ∧ D = Cls w [] [.obj b6 [.int .i64 x5.Tx, .int .i64 x5.Kind, .int .i64 x5.Item] 30, .obj b2 (zr svRow gq16 gl15).flatten 78, .ss ((zs (svSd 3 1 I) gq16 gl15).set (gx14.toNat * 1 + 0) (Sd.nil 0 0)), .obj b1 [u0] 22, .sl (gv (gq16 gx14.toNat) 0) 3 1 (x9.map I), .sl gv3 53 2 (gl4.map TSeen.row)] ∧ m34_see_Reads_L4 x9 a0 gl15 gx14 go2 x5 m gx26 = some r) ⟨0, rfl, rfl, h⟩ ⟨rfl, rfl, rfl, rfl, trivial⟩ (fun _ hw => hw.sel [1, 2, 3, 4, 0, 5] (by decide) rfl) ?_)))
               rintro m _ _ ⟨gx26, rfl, rfl, h⟩
               rcases m with _ | m
               · rw [m34_see_Reads_L4] at h; cases h
               rw [m34_see_Reads_L4] at h
               generalize hg4 : m34_see_Reads_L4 x9 a0 gl15 gx14 go2 x5 m = go4 at h
               rw [m34_see_Reads_L4B] at h
               refine W.seq (W.region (L.ite h rfl (Y.lss rfl rfl) (fun c28 h => ?_) (fun c28 h => ?_)))
               ·
                refine L.nil (E.thenN (W.seq (W.condT rfl ?_)))
                refine W.skip (E.thenN (W.seq (W.block (W.seq (W.region (L.y rfl (Y.move rfl) ?_))))))
                refine L.y rfl (Y.assign rfl) ?_
                refine L.nil (E.thenN (W.seq (W.region (L.y rfl (Y.move rfl) ?_))))
                refine L.y rfl (Y.move rfl) ?_
                refine L.y rfl (Y.move rfl) ?_
                refine L.m (V := fun _ => el (gv (gq16 gx14.toNat) 0) (gx26.toNat * 1)) h rfl (Y.indexM (g := I) (l := x9) Try.underlying62 sz3 rfl rfl (fun w hw => As.at_ (hw.get (i := 4) rfl))) (fun x29 ex29 h => ?_)
                refine L.y rfl (Y.loadE1 (u := .int .i64 x29) ag3 rfl (fun w hw => As.at_ (hw.get (i := 4) rfl)) (idx_map ex29)) ?_
                refine L.callVJ (fun v D => ∃ (gb27 : Bool), v = .bool gb27 ∧ D = Cls w [] [.obj b6 [.int .i64 x5.Tx, .int .i64 x5.Kind, .int .i64 x5.Item] 30, .obj b2 (zr svRow gq16 gl15).flatten 78, .ss ((zs (svSd 3 1 I) gq16 gl15).set (gx14.toNat * 1 + 0) (Sd.nil 0 0)), .obj b1 [u0] 22, .sl (gv (gq16 gx14.toNat) 0) 3 1 (x9.map I), .sl gv3 53 2 (gl4.map TSeen.row)] ∧ m34_see_Reads_K13 gl15 gx14 go2 x9 a0 x5 gx26 go4 gb27 = some r) rfl en42 rfl rfl Try.func42 rfl rfl rfl ?_ ?_
                ·
                 refine W.seq (W.region (L.y rfl (Y.assign rfl) ?_))
                 refine L.nil (E.thenN (W.seq (W.quietC mixed (by kernel_rfl) (fun _ hw => hw.drew) (fun hC => ?_))))
                 refine U.y rfl (Y.loadP (i := 3) ag22 rfl rfl rfl) ?_
                 refine U.y rfl (Y.move rfl) ?_
                 refine U.m (V := fun _ => el u0 (x29.toNat * 3)) h rfl (Y.indexM (g := TOp.row) (l := a0) Try.underlying22 sz30 rfl rfl (fun w' hw => hA0.cls0 hw)) (fun x31 ex31 h => ?_)
                 refine U.y rfl (Y.fieldE fd30_0 rfl) ?_
                 refine U.y rfl (Y.loadE (u := .int .i64 x31.Tx) ag3 rfl (fun w' hw => hA0.cls0 hw) (idx_map ex31) rfl) ?_
                 refine U.y rfl (Y.fieldP fd30_0 rfl) ?_
                 refine U.y rfl (Y.loadP (i := 0) ag3 rfl rfl rfl) ?_
                 refine U.y rfl (Y.eql rfl rfl) ?_
                 refine U.y rfl (Y.assign rfl) ?_
                 refine U.nil (E.thenN (W.ret (E.ret1 rfl rfl (fun w1 hw => ?_))))
                 exact ⟨_, _, rfl, ⟨decide (x31.Tx = x5.Tx), rfl, rfl, h⟩, hw⟩
                ·
                 rintro _ _ ⟨gb27, rfl, rfl, h⟩
                 rw [m34_see_Reads_K13] at h
                 rcases gb27 with _ | _
                 ·
                  replace h := iteF h
                  refine L.nil (E.thenN (W.condF rfl ?_))
                  refine W.skip (E.blockN (E.thenN (W.region (L.m (V := fun x30 => .int .i64 x30) h rfl (Y.addM rfl rfl) (fun x30 ex30 h => ?_)))))
                  refine L.y rfl (Y.move rfl) ?_
                  exact L.nil (E.againJ ⟨x30, rfl, rfl, by rw [hg4]; exact h⟩ (Nat.lt_succ_self _) ⟨rfl, rfl, rfl, rfl, trivial⟩ (fun _ hw => hw))
                 ·
                  replace h := iteT h
                  refine L.nil (E.thenN (W.condT rfl ?_))
                  refine W.seq (W.region (L.y rfl (Y.move rfl) ?_))
                  refine L.y rfl (Y.assign rfl) ?_
                  refine L.nil (E.thenN (W.ret (E.blockR (E.thenR (E.KLR (E.blockR (E.KSR (E.ret1 rfl rfl (fun w1 hw => ?_)))))))))
                  exact ⟨_, _, rfl, ⟨gx26, rfl, rfl, h⟩, hw⟩
               ·
                refine L.nil (E.thenN (W.seq (W.condF rfl ?_)))
                exact W.exit (E.thenX (E.KLX (E.blockX (E.joinJ ⟨rfl, rfl, h⟩ trivial (fun _ hw => hw)))))
              ·
               rintro _ _ ⟨rfl, rfl, h⟩
               rw [m34_see_Reads_K12] at h
               refine W.seq (W.region (L.y rfl (Y.assign rfl) ?_))
               refine L.nil (E.thenN (W.ret (E.ret1 rfl rfl (fun w1 hw => ?_))))
               exact ⟨_, _, rfl, ⟨(-1), rfl, rfl, h⟩, hw⟩
             ·
              rintro _ _ ⟨gx19, rfl, rfl, h⟩
              rw [m34_see_Reads_K7] at h
              refine L.y rfl (Y.assign rfl) ?_
              refine L.nil (E.thenN (W.seqJ (fun gs D => gs = [(0, gv (gq16 gx14.toNat) 0), (1, .func (.func 42) #[] #[pt b1 0, pt b6 0]), (5, .int .i64 gx19)] ∧ D = Cls w [] [.obj b6 [.int .i64 x5.Tx, .int .i64 x5.Kind, .int .i64 x5.Item] 30, .obj b2 (zr svRow gq16 gl15).flatten 78, .ss ((zs (svSd 3 1 I) gq16 gl15).set (gx14.toNat * 1 + 0) (Sd.nil 0 0)), .obj b1 [u0] 22, .sl (gv (gq16 gx14.toNat) 0) 3 1 (x9.map I), .sl gv3 53 2 (gl4.map TSeen.row)] ∧ m34_see_Reads_K8 gx19 a0 x5 gl15 gx14 go2 x9 = some r) ?_ ?_))
              ·
               refine W.seq (W.region (L.y rfl (Y.move rfl) ?_))
               refine L.ite h rfl (Y.eql rfl rfl) (fun c27 h => ?_) (fun c27 h => ?_)
               ·
                refine L.nil (E.thenN (W.condT rfl ?_))
                refine W.seq (W.region (L.y rfl (Y.move rfl) ?_))
                refine L.y rfl (Y.assign rfl) ?_
                refine L.nil (E.thenN (W.ret (E.KSR (E.ret1 rfl rfl (fun w1 hw => ?_)))))
                exact ⟨_, _, rfl, ⟨gv (gq16 gx14.toNat) 0, x9, rfl, rfl, h⟩, hw.sel [0, 1, 2, 3, 5, 4] (by decide) rfl⟩
               ·
                refine L.nil (E.thenN (W.condF rfl ?_))
                exact W.skip (E.joinJ ⟨rfl, rfl, h⟩ ⟨rfl, rfl, rfl, trivial⟩ (fun _ hw => hw))
              ·
               rintro _ _ ⟨rfl, rfl, h⟩
               rw [m34_see_Reads_K8] at h
               refine W.seqJ (fun gs D => ∃ (gl20 : (List Int)) (gx21 : Int), gs = [(0, gv (gq16 gx14.toNat) 0), (5, .int .i64 gx21)] ∧ D = Cls w [] [.obj b6 [.int .i64 x5.Tx, .int .i64 x5.Kind, .int .i64 x5.Item] 30, .obj b2 (zr svRow gq16 gl15).flatten 78, .ss ((zs (svSd 3 1 I) gq16 gl15).set (gx14.toNat * 1 + 0) (Sd.nil 0 0)), .obj b1 [u0] 22, .sl (gv (gq16 gx14.toNat) 0) 3 1 (gl20.map I), .sl gv3 53 2 (gl4.map TSeen.row)] ∧ m34_see_Reads_K9 gl15 gx14 go2 gl20 gx21 = some r) ?_ ?_
               ·
                refine W.seq (W.region (L.y rfl (Y.move rfl) ?_))
                refine L.m (V := fun x18 => .int .i64 x18) h rfl (Y.addM rfl rfl) (fun x18 ex18 h => ?_)
                refine L.y rfl (Y.assign rfl) ?_
                refine L.nil (E.thenN (W.block (W.loopJ (fun m gs D => ∃ (gl22 : (List Int)) (gx23 : Int) (gx24 : Int), gs = [(0, gv (gq16 gx14.toNat) 0), (1, .func (.func 42) #[] #[pt b1 0, pt b6 0]), (5, .int .i64 gx23), (6, .int .i64 gx24)] ∧ D = Cls w [] [.obj b6 [.int .i64 x5.Tx, .int .i64 x5.Kind, .int .i64 x5.Item] 30, .obj b2 (zr svRow gq16 gl15).flatten 78, .ss ((zs (svSd 3 1 I) gq16 gl15).set (gx14.toNat * 1 + 0) (Sd.nil 0 0)), .obj b1 [u0] 22, .sl (gv (gq16 gx14.toNat) 0) 3 1 (gl22.map I), .sl gv3 53 2 (gl4.map TSeen.row)] ∧ m34_see_Reads_L3 a0 x5 gl15 gx14 go2 m gl22 gx23 gx24 = some r) ⟨x9, gx19, x18, rfl, rfl, h⟩ ⟨rfl, rfl, rfl, rfl, trivial⟩ (fun _ hw => hw) ?_)))
                rintro m _ _ ⟨gl22, gx23, gx24, rfl, rfl, h⟩
                rcases m with _ | m
                · rw [m34_see_Reads_L3] at h; cases h
                rw [m34_see_Reads_L3] at h
                generalize hg3 : m34_see_Reads_L3 a0 x5 gl15 gx14 go2 m = go3 at h
                rw [m34_see_Reads_L3B] at h
                refine W.seqJ (fun gs D => gs = [(0, gv (gq16 gx14.toNat) 0), (1, .func (.func 42) #[] #[pt b1 0, pt b6 0]), (5, .int .i64 gx23), (6, .int .i64 gx24)] ∧ D = Cls w [] [.obj b6 [.int .i64 x5.Tx, .int .i64 x5.Kind, .int .i64 x5.Item] 30, .obj b2 (zr svRow gq16 gl15).flatten 78, .ss ((zs (svSd 3 1 I) gq16 gl15).set (gx14.toNat * 1 + 0) (Sd.nil 0 0)), .obj b1 [u0] 22, .sl (gv (gq16 gx14.toNat) 0) 3 1 (gl22.map I), .sl gv3 53 2 (gl4.map TSeen.row)] ∧ m34_see_Reads_K10 gl22 gx24 a0 go3 gx23 x5 = some r) ?_ ?_
                ·
                 refine W.seq (W.region (L.y rfl (Y.move rfl) ?_))
                 refine L.y rfl (Y.move rfl) ?_
                 refine L.y rfl (Y.lenM (g := I) (l := gl22) Try.underlying62 rfl (fun w hw => As.at_ (hw.get (i := 4) rfl))) ?_
                 refine L.ite h rfl (Y.lss rfl rfl) (fun c26 h => ?_) (fun c26 h => ?_)
                 ·
                  refine L.nil (E.thenN (W.condT rfl ?_))
                  exact W.skip (E.joinJ ⟨rfl, rfl, h⟩ ⟨rfl, rfl, rfl, rfl, trivial⟩ (fun _ hw => hw))
                 ·
                  refine L.nil (E.thenN (W.condF rfl ?_))
                  exact W.exit (E.KSX (E.KLX (E.blockX (E.joinJ ⟨gl22, gx23, rfl, rfl, h⟩ ⟨rfl, rfl, trivial⟩ (fun _ hw => hw)))))
                ·
                 rintro _ _ ⟨rfl, rfl, h⟩
                 rw [m34_see_Reads_K10] at h
                 refine W.seq (W.block (W.seq (W.region (L.y rfl (Y.move rfl) ?_))))
                 refine L.y rfl (Y.move rfl) ?_
                 refine L.m (V := fun _ => el (gv (gq16 gx14.toNat) 0) (gx24.toNat * 1)) h rfl (Y.indexM (g := I) (l := gl22) Try.underlying62 sz3 rfl rfl (fun w hw => As.at_ (hw.get (i := 4) rfl))) (fun x19 ex19 h => ?_)
                 refine L.y rfl (Y.loadE1 (u := .int .i64 x19) ag3 rfl (fun w hw => As.at_ (hw.get (i := 4) rfl)) (idx_map ex19)) ?_
                 refine L.y rfl (Y.assign rfl) ?_
                 refine L.nil (E.thenN (W.seq (W.region (L.y rfl (Y.move rfl) ?_))))
                 refine L.y rfl (Y.move rfl) ?_
                 refine L.callVJ (fun v D => ∃ (gb25 : Bool), v = .bool gb25 ∧ D = Cls w [] [.obj b6 [.int .i64 x5.Tx, .int .i64 x5.Kind, .int .i64 x5.Item] 30, .obj b2 (zr svRow gq16 gl15).flatten 78, .ss ((zs (svSd 3 1 I) gq16 gl15).set (gx14.toNat * 1 + 0) (Sd.nil 0 0)), .obj b1 [u0] 22, .sl (gv (gq16 gx14.toNat) 0) 3 1 (gl22.map I), .sl gv3 53 2 (gl4.map TSeen.row)] ∧ m34_see_Reads_K11 gx24 go3 gl22 gx23 x19 gb25 = some r) rfl en42 rfl rfl Try.func42 rfl rfl rfl ?_ ?_
                 ·
                  refine W.seq (W.region (L.y rfl (Y.assign rfl) ?_))
                  refine L.nil (E.thenN (W.seq (W.quietC mixed (by kernel_rfl) (fun _ hw => hw.drew) (fun hC => ?_))))
                  refine U.y rfl (Y.loadP (i := 3) ag22 rfl rfl rfl) ?_
                  refine U.y rfl (Y.move rfl) ?_
                  refine U.m (V := fun _ => el u0 (x19.toNat * 3)) h rfl (Y.indexM (g := TOp.row) (l := a0) Try.underlying22 sz30 rfl rfl (fun w' hw => hA0.cls0 hw)) (fun x25 ex25 h => ?_)
                  refine U.y rfl (Y.fieldE fd30_0 rfl) ?_
                  refine U.y rfl (Y.loadE (u := .int .i64 x25.Tx) ag3 rfl (fun w' hw => hA0.cls0 hw) (idx_map ex25) rfl) ?_
                  refine U.y rfl (Y.fieldP fd30_0 rfl) ?_
                  refine U.y rfl (Y.loadP (i := 0) ag3 rfl rfl rfl) ?_
                  refine U.y rfl (Y.eql rfl rfl) ?_
                  refine U.y rfl (Y.assign rfl) ?_
                  refine U.nil (E.thenN (W.ret (E.ret1 rfl rfl (fun w1 hw => ?_))))
                  exact ⟨_, _, rfl, ⟨decide (x25.Tx = x5.Tx), rfl, rfl, h⟩, hw⟩
                 ·
                  rintro _ _ ⟨gb25, rfl, rfl, h⟩
                  rw [m34_see_Reads_K11] at h
                  rcases gb25 with _ | _
                  ·
                   replace h := iteF h
                   refine L.y rfl (Y.not rfl) ?_
                   refine L.nil (E.thenN (W.condT rfl ?_))
                   refine W.seq (W.region (L.y rfl (Y.move rfl) ?_))
                   refine L.y rfl (Y.move rfl) ?_
                   refine L.y rfl (Y.move rfl) ?_
                   refine L.m (V := fun _ => el (gv (gq16 gx14.toNat) 0) (gx23.toNat * 1)) h rfl (Y.indexM (g := I) (l := gl22) Try.underlying62 sz3 rfl rfl (fun w hw => As.at_ (hw.get (i := 4) rfl))) (fun x20 ex20 h => ?_)
                   refine L.storeSlM (q := 4) (row := I) (vs := [.int .i64 x19]) (j := 0) (u1 := x19) h sz3 rfl rfl rfl rfl rfl (all1 rfl all0) rfl ex20 rfl rfl ?_
                   intro l21 el21 h
                   refine L.nil (E.thenN (W.region (L.y rfl (Y.move rfl) ?_)))
                   refine L.m (V := fun x22 => .int .i64 x22) h rfl (Y.addM rfl rfl) (fun x22 ex22 h => ?_)
                   refine L.y rfl (Y.assign rfl) ?_
                   refine L.nil (E.blockN (E.thenN (W.region (L.y rfl (Y.move rfl) ?_))))
                   refine L.m (V := fun x23 => .int .i64 x23) h rfl (Y.addM rfl rfl) (fun x23 ex23 h => ?_)
                   refine L.y rfl (Y.assign rfl) ?_
                   exact L.nil (E.againJ ⟨l21, x22, x23, rfl, rfl, by rw [hg3]; exact h⟩ (Nat.lt_succ_self _) ⟨rfl, rfl, rfl, rfl, trivial⟩ (fun _ hw => hw))
                  ·
                   replace h := iteT h
                   refine L.y rfl (Y.not rfl) ?_
                   refine L.nil (E.thenN (W.condF rfl ?_))
                   refine W.skip (E.blockN (E.thenN (W.region (L.y rfl (Y.move rfl) ?_))))
                   refine L.m (V := fun x24 => .int .i64 x24) h rfl (Y.addM rfl rfl) (fun x24 ex24 h => ?_)
                   refine L.y rfl (Y.assign rfl) ?_
                   exact L.nil (E.againJ ⟨gl22, gx23, x24, rfl, rfl, by rw [hg3]; exact h⟩ (Nat.lt_succ_self _) ⟨rfl, rfl, rfl, rfl, trivial⟩ (fun _ hw => hw))
               ·
                rintro _ _ ⟨gl20, gx21, rfl, rfl, h⟩
                rw [m34_see_Reads_K9] at h
                refine W.seq (W.region (L.y rfl (Y.move rfl) ?_))
                refine L.y rfl (Y.move rfl) ?_
                refine L.m (V := fun _ => dropv (gv (gq16 gx14.toNat) 0) gx21.toNat 1) h rfl (Y.dropM (g := I) Try.underlying62 sz3 rfl rfl (fun w hw => As.at_ (hw.get (i := 4) rfl))) (fun l14 el14 h => ?_)
                refine L.clearM (i := 4) (g := I) (z0 := 0) (a := gx21) h Try.underlying62 eL3 ze3 (fun u hu => ((plain_ints _) : Plain ([0].map I)) _ (List.mem_cons_self ..) u hu) rfl rfl ?_
                intro l15 el15 h
                refine L.nil (E.thenN (W.seq (W.region (L.y rfl (Y.move rfl) ?_))))
                refine L.y rfl (Y.move rfl) ?_
                obtain ⟨l16, el16, h⟩ := bind1S h
                refine L.cutM (i := 4) (g := I) el16 rfl Try.underlying62 sz3 rfl rfl rfl (fun v17 => ?_)
                refine L.y rfl (Y.assign rfl) ?_
                refine L.nil (E.thenN (W.ret (E.ret1 rfl rfl (fun w1 hw => ?_))))
                exact ⟨_, _, rfl, ⟨v17, l16, rfl, rfl, h⟩, hw.sel [0, 1, 2, 3, 5, 4] (by decide) rfl⟩
            ·
             rintro gv17 _ ⟨_, gl18, rfl, rfl, h⟩
             rw [m34_see_Reads_K6] at h
             refine L.m (V := fun _ => pt b2 (0 + gx14.toNat * 1)) h rfl (Y.indexAM (l := gl15) Try.underlying78 sz62 rfl rfl) (fun x10 ex10 h => ?_)
             refine L.storeZS (row := svRow) (sds := (svSd 3 1 I)) (vs := gq16) (q := 1) (p := 5) (s := 2) (c := 1) (jj := 0) (u1 := gl18) (v1 := [gv17]) (j := 0) h sz62 rfl rfl rfl rfl rfl rfl (.inr rfl) (fun _ _ => rfl) (fun _ _ => rfl) (idxA_idx ex10) rfl rfl rfl rfl ?_
             intro l11 q12 el11 h
             refine L.nil (E.blockN (E.thenN (W.region (L.m (V := fun x13 => .int .i64 x13) h rfl (Y.addM rfl rfl) (fun x13 ex13 h => ?_)))))
             refine L.y rfl (Y.move rfl) ?_
             exact L.nil (E.againJ ⟨x13, l11, q12, rfl, rfl, by rw [hg2]; exact h⟩ (Nat.lt_succ_self _) ⟨rfl, rfl, rfl, rfl, rfl, rfl, rfl, rfl, trivial⟩ (fun _ hw => hw))
           ·
            refine L.nil (E.thenN (W.seq (W.condF rfl ?_)))
            exact W.exit (E.thenX (E.KLX (E.blockX (E.blockN (E.blockN (E.joinJ ⟨gv3, gl4, gl15, gq16, rfl, rfl, h⟩ ⟨rfl, rfl, rfl, rfl, rfl, rfl, trivial⟩ (fun _ hw => hw.sel [1, 2, 3, 4] (by decide) rfl)))))))
          ·
           refine L.y rfl (Y.assign rfl) ?_
           refine L.nil (E.thenN (W.condF rfl ?_))
           exact W.skip (E.blockN (E.blockN (E.joinJ ⟨gv3, gl4, gl6, gq7, rfl, rfl, h⟩ ⟨rfl, rfl, rfl, rfl, rfl, rfl, trivial⟩ (fun _ hw => hw.sel [1, 2, 3, 4] (by decide) rfl))))
         ·
          replace h := iteT h
          refine W.condT rfl ?_
          refine W.drawn2 (k := 11) (stC [[8, 10], [10]] [Cls w [] [.obj b6 [.int .i64 x5.Tx, .int .i64 x5.Kind, .int .i64 x5.Item] 30, .obj b2 (zr svRow gq7 gl6).flatten 78, .ss (zs (svSd 3 1 I) gq7 gl6), .obj b1 [u0] 22, .sl gv3 53 2 (gl4.map TSeen.row)], Cls w [] [.obj b6 [.int .i64 x5.Tx, .int .i64 x5.Kind, .int .i64 x5.Item] 30, .obj b2 (zr svRow gq7 gl6).flatten 78, .obj b1 [u0] 22, .sl gv3 53 2 (gl4.map TSeen.row)]] (Cls w [] [.obj b6 [.int .i64 x5.Tx, .int .i64 x5.Kind, .int .i64 x5.Item] 30, .obj b1 [u0] 22, .sl gv3 53 2 (gl4.map TSeen.row)])) rfl mixed (fun _ hw => hw.drew) (Sc.now (by kernel_rfl) (fun _ hw => hw)) ?_
          refine V2.y (i := 0) (Nx2.of (Z := Cls w [] [.obj b6 [.int .i64 x5.Tx, .int .i64 x5.Kind, .int .i64 x5.Item] 30, .obj b1 [u0] 22, .sl gv3 53 2 (gl4.map TSeen.row)]) [] (by kernel_rfl) rfl (Zc.on (fun _ hw => hw.sel [0, 3, 4] (by decide) rfl) (Zc.on (fun _ hw => hw.sel [0, 2, 3] (by decide) rfl) (Zc.fin (fun _ hw => hw))))) rfl rfl rfl (Y.fieldP fd30_2 rfl) ?_
          refine V2.y (i := 1) (Nx2.of (Z := Cls w [] [.obj b6 [.int .i64 x5.Tx, .int .i64 x5.Kind, .int .i64 x5.Item] 30, .obj b1 [u0] 22, .sl gv3 53 2 (gl4.map TSeen.row)]) [] (by kernel_rfl) rfl (Zc.on (fun _ hw => hw.sel [0, 3, 4] (by decide) rfl) (Zc.on (fun _ hw => hw.sel [0, 2, 3] (by decide) rfl) (Zc.fin (fun _ hw => hw))))) rfl rfl rfl (Y.loadP (i := 0) ag3 rfl rfl rfl) ?_
          refine V2.y (i := 2) (Nx2.of (Z := Cls w [] [.obj b6 [.int .i64 x5.Tx, .int .i64 x5.Kind, .int .i64 x5.Item] 30, .obj b1 [u0] 22, .sl gv3 53 2 (gl4.map TSeen.row)]) [] (by kernel_rfl) rfl (Zc.on (fun _ hw => hw.sel [0, 3, 4] (by decide) rfl) (Zc.on (fun _ hw => hw.sel [0, 2, 3] (by decide) rfl) (Zc.fin (fun _ hw => hw))))) rfl rfl rfl (Y.fieldP fd30_2 rfl) ?_
          refine V2.y (i := 3) (Nx2.of (Z := Cls w [] [.obj b6 [.int .i64 x5.Tx, .int .i64 x5.Kind, .int .i64 x5.Item] 30, .obj b1 [u0] 22, .sl gv3 53 2 (gl4.map TSeen.row)]) [] (by kernel_rfl) rfl (Zc.on (fun _ hw => hw.sel [0, 3, 4] (by decide) rfl) (Zc.on (fun _ hw => hw.sel [0, 2, 3] (by decide) rfl) (Zc.fin (fun _ hw => hw))))) rfl rfl rfl (Y.loadP (i := 0) ag3 rfl rfl rfl) ?_
          refine V2.m (i := 4) (V' := fun _ => pt b2 (0 + x5.Item.toNat * 1)) h (Nx2.of (Z := Cls w [] [.obj b6 [.int .i64 x5.Tx, .int .i64 x5.Kind, .int .i64 x5.Item] 30, .obj b2 (zr svRow gq7 gl6).flatten 78, .obj b1 [u0] 22, .sl gv3 53 2 (gl4.map TSeen.row)]) [10] (by kernel_rfl) rfl (Zc.on (fun _ hw => hw.sel [0, 1, 3, 4] (by decide) rfl) (Zc.at1 (fun _ hw => hw)))) rfl rfl rfl (Y.indexAM (l := gl6) Try.underlying78 sz62 rfl rfl) (fun x50 ex50 h => ?_)
          refine V2.y (i := 5) (Nx2.of (Z := Cls w [] [.obj b6 [.int .i64 x5.Tx, .int .i64 x5.Kind, .int .i64 x5.Item] 30, .obj b2 (zr svRow gq7 gl6).flatten 78, .obj b1 [u0] 22, .sl gv3 53 2 (gl4.map TSeen.row)]) [10] (by kernel_rfl) rfl (Zc.on (fun _ hw => hw.sel [0, 1, 3, 4] (by decide) rfl) (Zc.at1 (fun _ hw => hw)))) rfl rfl rfl (Y.loadZ (q := 1) (row := svRow) (vs := gq7) (j := 0) (pv := gv (gq7 x5.Item.toNat) 0) ag62 rfl rfl rfl (fun _ _ => rfl) (idxA_idx ex50) rfl) ?_
          refine V2.y (i := 6) (Nx2.of (Z := Cls w [] [.obj b6 [.int .i64 x5.Tx, .int .i64 x5.Kind, .int .i64 x5.Item] 30, .obj b1 [u0] 22, .sl gv3 53 2 (gl4.map TSeen.row)]) [] (by kernel_rfl) rfl (Zc.on (fun _ hw => hw.sel [0, 3, 4] (by decide) rfl) (Zc.on (fun _ hw => hw.sel [0, 2, 3] (by decide) rfl) (Zc.fin (fun _ hw => hw))))) rfl rfl rfl (Y.move rfl) ?_
          refine V2.eff (i := 7) (by kernel_rfl) rfl ?_
          refine L.litOne rfl Try.underlying62 eL3 rfl rfl ?_
          intro b51
          refine L.nil (E.toV2 (stC [[8, 10], [10]] [Cls w [] [.sl (sv b51 1) 3 1 (([gx5]).map I), .obj b6 [.int .i64 x5.Tx, .int .i64 x5.Kind, .int .i64 x5.Item] 30, .obj b2 (zr svRow gq7 gl6).flatten 78, .ss (zs (svSd 3 1 I) gq7 gl6), .obj b1 [u0] 22, .sl gv3 53 2 (gl4.map TSeen.row)], Cls w [] [.sl (sv b51 1) 3 1 (([gx5]).map I), .obj b6 [.int .i64 x5.Tx, .int .i64 x5.Kind, .int .i64 x5.Item] 30, .obj b2 (zr svRow gq7 gl6).flatten 78, .obj b1 [u0] 22, .sl gv3 53 2 (gl4.map TSeen.row)]] (Cls w [] [.sl (sv b51 1) 3 1 (([gx5]).map I), .obj b6 [.int .i64 x5.Tx, .int .i64 x5.Kind, .int .i64 x5.Item] 30, .obj b1 [u0] 22, .sl gv3 53 2 (gl4.map TSeen.row)])) 7 (by kernel_rfl) (Sc.stay (fun _ hw => hw.sel [1, 2, 3, 4, 5] (by decide) rfl) (Sc.stay (fun _ hw => hw.sel [1, 2, 3, 4] (by decide) rfl) (Sc.stayD (fun _ hw => hw.sel [1, 2, 3] (by decide) rfl)))) (Sc.now (by kernel_rfl) (fun _ hw => hw)) ?_)
          refine V2.eff (i := 8) (by kernel_rfl) rfl ?_
          refine L.ssOut (sds := (svSd 3 1 I)) (vs := gq7) (s := 3) (j := 0) (c := 1) rfl (fun _ _ => rfl) (idxA_idx ex50) rfl ?_
          refine L.appM (i := 0) (g := I) (l := x50) (more := [gx5]) h rfl Try.underlying62 eL3 rfl rfl rfl (fun w hw => As.at_ (hw.get (i := 1) rfl)) (plain_ints _) rfl ?_
          intro v52 l53 el53 h
          refine L.nil (E.toV2 (stC [[10]] [Cls w [] [.sl v52 3 1 (l53.map I), .sl (sv b51 1) 3 1 (([gx5]).map I), .obj b6 [.int .i64 x5.Tx, .int .i64 x5.Kind, .int .i64 x5.Item] 30, .obj b2 (zr svRow gq7 gl6).flatten 78, .obj b1 [u0] 22, .sl gv3 53 2 (gl4.map TSeen.row)]] (Cls w [] [.sl (sv b51 1) 3 1 (([gx5]).map I), .obj b6 [.int .i64 x5.Tx, .int .i64 x5.Kind, .int .i64 x5.Item] 30, .obj b1 [u0] 22, .sl gv3 53 2 (gl4.map TSeen.row)])) 8 (by kernel_rfl) (Sc.past rfl (Sc.stay (fun _ hw => hw.sel [1, 2, 3, 4, 5] (by decide) rfl) (Sc.stayD (fun _ hw => hw)))) (Sc.now (by kernel_rfl) (fun _ hw => hw.sel [0, 1, 2, 3, 5, 6] (by decide) rfl)) ?_)
          refine V2.m (i := 9) (V' := fun _ => pt b2 (0 + x5.Item.toNat * 1)) h (Nx2.of (Z := Cls w [] [.sl v52 3 1 (l53.map I), .sl (sv b51 1) 3 1 (([gx5]).map I), .obj b6 [.int .i64 x5.Tx, .int .i64 x5.Kind, .int .i64 x5.Item] 30, .obj b2 (zr svRow gq7 gl6).flatten 78, .obj b1 [u0] 22, .sl gv3 53 2 (gl4.map TSeen.row)]) [10] (by kernel_rfl) rfl (Zc.at1 (fun _ hw => hw))) rfl rfl rfl (Y.indexAM (l := gl6) Try.underlying78 sz62 rfl rfl) (fun x54 ex54 h => ?_)
          refine V2.eff (i := 10) (by kernel_rfl) rfl ?_
          refine L.storeZS (row := svRow) (sds := (svSd 3 1 I)) (vs := gq7) (q := 3) (p := 0) (s := 4) (c := 1) (jj := 0) (u1 := l53) (v1 := [v52]) (j := 0) h sz62 rfl rfl rfl rfl rfl rfl (.inr rfl) (fun _ _ => rfl) (fun _ _ => rfl) (idxA_idx ex54) rfl rfl rfl rfl ?_
          intro l55 q56 el55 h
          refine L.nil (E.toV2 (stC [] [] (Cls w [] [.sl (sv b51 1) 3 1 (([gx5]).map I), .obj b6 [.int .i64 x5.Tx, .int .i64 x5.Kind, .int .i64 x5.Item] 30, .obj b1 [u0] 22, .sl gv3 53 2 (gl4.map TSeen.row)])) 10 (by kernel_rfl) (Sc.past rfl (Sc.stayD (fun _ hw => hw))) (Sc.atD (fun _ hw => hw.sel [0, 1, 4, 5] (by decide) rfl)) ?_)
          refine V2.done (by kernel_rfl) ?_
          exact E.blockN (E.blockN (E.joinJ ⟨gv3, gl4, l55, q56, rfl, rfl, h⟩ ⟨rfl, rfl, rfl, rfl, rfl, rfl, trivial⟩ (fun _ hw => hw.sel [2, 3, 4, 5] (by decide) rfl)))
       ·
        replace h := iteT h
        refine W.condT rfl ?_
        refine W.seq (W.region (L.y rfl (Y.assign rfl) ?_))
        refine L.nil (E.thenN (W.seq (W.seq (W.region (L.y rfl (Y.fieldP fd30_2 rfl) ?_)))))
        refine L.y rfl (Y.loadP (i := 0) ag3 rfl rfl rfl) ?_
        refine L.m (V := fun _ => pt b2 (0 + x5.Item.toNat * 1)) h rfl (Y.indexAM (l := gl6) Try.underlying78 sz62 rfl rfl) (fun x58 ex58 h => ?_)
        refine L.y rfl (Y.loadZ (q := 1) (row := svRow) (vs := gq7) (j := 0) (pv := gv (gq7 x5.Item.toNat) 0) ag62 rfl rfl rfl (fun _ _ => rfl) (idxA_idx ex58) rfl) ?_
        refine L.y rfl (Y.lenM (g := I) (l := x58) Try.underlying62 rfl (fun w hw => As.atZ (sds := (svSd 3 1 I)) (vs := gq7) (j := 0) (c := 1) (hw.get (i := 2) rfl) (fun _ _ => rfl) (idxA_idx ex58) rfl)) ?_
        refine L.y rfl (Y.assign rfl) ?_
        refine L.nil (E.thenN (W.seq (W.region (L.y rfl (Y.move rfl) ?_))))
        refine L.ite h rfl (Y.gtr rfl rfl) (fun c59 h => ?_) (fun c59 h => ?_)
        ·
         refine L.nil (E.thenN (W.condT rfl ?_))
         refine W.region (L.y rfl (Y.fieldP fd30_2 rfl) ?_)
         refine L.y rfl (Y.loadP (i := 0) ag3 rfl rfl rfl) ?_
         refine L.m (V := fun _ => pt b2 (0 + x5.Item.toNat * 1)) h rfl (Y.indexAM (l := gl6) Try.underlying78 sz62 rfl rfl) (fun x60 ex60 h => ?_)
         refine L.y rfl (Y.loadZ (q := 1) (row := svRow) (vs := gq7) (j := 0) (pv := gv (gq7 x5.Item.toNat) 0) ag62 rfl rfl rfl (fun _ _ => rfl) (idxA_idx ex60) rfl) ?_
         refine L.y rfl (Y.move rfl) ?_
         refine L.m (V := fun x61 => .int .i64 x61) h rfl (Y.subM rfl rfl) (fun x61 ex61 h => ?_)
         refine L.m (V := fun _ => el (gv (gq7 x5.Item.toNat) 0) (x61.toNat * 1)) h rfl (Y.indexM (g := I) (l := x60) Try.underlying62 sz3 rfl rfl (fun w hw => As.atZ (sds := (svSd 3 1 I)) (vs := gq7) (j := 0) (c := 1) (hw.get (i := 2) rfl) (fun _ _ => rfl) (idxA_idx ex60) rfl)) (fun x62 ex62 h => ?_)
         refine L.y rfl (Y.loadE1 (u := .int .i64 x62) ag3 rfl (fun w hw => As.atZ (sds := (svSd 3 1 I)) (vs := gq7) (j := 0) (c := 1) (hw.get (i := 2) rfl) (fun _ _ => rfl) (idxA_idx ex60) rfl) (idx_map ex62)) ?_
         refine L.y rfl (Y.assign rfl) ?_
         refine L.nil (E.thenN (W.region (L.y rfl (Y.move rfl) ?_)))
         refine L.y rfl (Y.move rfl) ?_
         refine L.y rfl (Y.move rfl) ?_
         refine L.y rfl (Y.build (cells := #[.int .i64 gx5, .int .i64 x62]) rfl (by kernel_rfl)) ?_
         refine L.litAgg rfl Try.underlying50 eL53 rfl rfl rfl ?_
         intro b63
         refine L.appM (i := 5) (g := TSeen.row) (l := gl4) (more := [(⟨gx5, x62⟩ : TSeen)]) h rfl Try.underlying50 eL53 rfl rfl rfl (fun w hw => As.at_ (hw.get (i := 0) rfl)) (plain_TSeen _) rfl ?_
         intro v64 l65 el65 h
         refine L.y rfl (Y.assign rfl) ?_
         exact L.nil (E.blockN (E.blockN (E.joinJ ⟨v64, l65, gl6, gq7, rfl, rfl, h⟩ ⟨rfl, rfl, rfl, rfl, rfl, rfl, trivial⟩ (fun _ hw => hw.sel [3, 4, 5, 0] (by decide) rfl))))
        ·
         refine L.nil (E.thenN (W.condF rfl ?_))
         refine W.skip (E.thenN (W.region (L.y rfl (Y.move rfl) ?_)))
         refine L.y rfl (Y.move rfl) ?_
         refine L.y rfl (Y.move rfl) ?_
         refine L.y rfl (Y.build (cells := #[.int .i64 gx5, .int .i64 (-1)]) rfl (by kernel_rfl)) ?_
         refine L.litAgg rfl Try.underlying50 eL53 rfl rfl rfl ?_
         intro b66
         refine L.appM (i := 5) (g := TSeen.row) (l := gl4) (more := [(⟨gx5, (-1)⟩ : TSeen)]) h rfl Try.underlying50 eL53 rfl rfl rfl (fun w hw => As.at_ (hw.get (i := 0) rfl)) (plain_TSeen _) rfl ?_
         intro v67 l68 el68 h
         refine L.y rfl (Y.assign rfl) ?_
         exact L.nil (E.blockN (E.blockN (E.joinJ ⟨v67, l68, gl6, gq7, rfl, rfl, h⟩ ⟨rfl, rfl, rfl, rfl, rfl, rfl, trivial⟩ (fun _ hw => hw.sel [3, 4, 5, 0] (by decide) rfl))))
     ·
      rintro _ _ ⟨gv8, gl9, gl10, gq11, rfl, rfl, h⟩
      rw [m34_see_Reads_K3] at h
      refine W.region (L.m (V := fun x4 => .int .i64 x4) h rfl (Y.addM rfl rfl) (fun x4 ex4 h => ?_))
      refine L.y rfl (Y.move rfl) ?_
      exact L.nil (E.againJ ⟨gv8, gl9, x4, gl10, gq11, rfl, rfl, by rw [hg1]; exact h⟩ (Nat.lt_succ_self _) ⟨rfl, rfl, rfl, rfl, rfl, rfl, trivial⟩ (fun _ hw => hw))
    ·
     refine L.nil (E.thenN (W.seq (W.condF rfl ?_)))
     exact W.exit (E.thenX (E.KLX (E.blockX (E.joinJ ⟨gv3, gl4, rfl, rfl, h⟩ ⟨rfl, trivial⟩ (fun _ hw => hw.sel [3] (by decide) rfl)))))
   ·
    rintro _ _ ⟨gv1, gl2, rfl, rfl, h⟩
    rw [m34_see_Reads_K2] at h
    refine W.seq (W.region (L.y rfl (Y.move rfl) ?_))
    refine L.y rfl (Y.assign rfl) ?_
    refine L.y rfl (Y.assign rfl) ?_
    refine L.nil (E.thenN (W.ret (E.ret2 rfl rfl rfl (fun w1 hw => ?_))))
    obtain rfl := Option.some.inj h
    exact ⟨_, _, rfl, ⟨_, rfl, rfl⟩, hw⟩
set_option maxRecDepth 100000 in
set_option maxHeartbeats 8000000 in
theorem w35_see_Last (a0 : (List TOp)) (u0 : Value) (w : World) (r : ((List Int) × Int)) (h : m35_see_Last a0 = some r) (hA0 : At w u0 3 (a0.map TOp.row)) : Does Try.prog 35 [u0] w fun u m => u = .tuple #[.agg (r.1.map I).flatten.toArray, .int .i64 r.2] ∧ m = [] := by
  rw [m35_see_Last] at h
  refine body (n := 60) Try.func35 rfl rfl rfl (Cls.refl w) ?_
  refine W.seq (W.region (L.alloc rfl ze57 ?_))
  intro b1
  refine L.to (D := Cls w [] [.obj b1 (((List.replicate 20 (0 : Int)).map I).flatten) 57]) (fun _ hw => by first | exact hw | simpa [I, B, SR] using hw) ?_
  refine L.y rfl (Y.assign rfl) ?_
  refine L.nil (E.thenN (W.seq (W.region (L.alloc rfl ze57 ?_))))
  intro b2
  refine L.to (D := Cls w [] [.obj b2 (((List.replicate 20 (0 : Int)).map I).flatten) 57, .obj b1 (((List.replicate 20 (0 : Int)).map I).flatten) 57]) (fun _ hw => by first | exact hw | simpa [I, B, SR] using hw) ?_
  refine L.nil (E.thenN (W.seqJ (fun gs D => gs = [(0, u0), (2, pt b1 0), (4, pt b2 0)] ∧ D = Cls w [] [.obj b2 (((List.replicate 20 (0 : Int)).map I).flatten) 57, .obj b1 (((List.replicate 20 (0 : Int)).map I).flatten) 57] ∧ m35_see_Last_K1 a0 = some r) ?_ ?_))
  ·
   refine W.seq (W.region (L.y rfl (Y.move rfl) ?_))
   obtain ⟨x31, e32, h⟩ := bind1S h
   refine L.y rfl (Y.does en10 rfl (fun w' hw => (w10_run_Check a0 u0 w' _ e32 (hA0.cls0 hw)).mono (fun _ _ h => h.1))) ?_
   refine L.y rfl (Y.assign rfl) ?_
   refine L.nil (E.thenN (W.seq (W.region (L.y rfl (Y.move rfl) ?_))))
   refine L.ite h rfl (Y.neq rfl rfl) (fun c33 h => ?_) (fun c33 h => ?_)
   ·
    refine L.nil (E.thenN (W.condT rfl ?_))
    refine W.seq (W.region ?_)
    obtain ⟨_, en34, h⟩ := bind1S h
    obtain ⟨_, en34⟩ := arrN_some en34
    refine L.y rfl (Y.loadArAll (q := 0) (row := I) (k := 1) ag57 sz57 rfl rfl (fun _ => rfl) (by rw [en34])) ?_
    refine L.y rfl (Y.move rfl) ?_
    obtain ⟨_, en35, h⟩ := bind1S h
    obtain ⟨_, en35⟩ := arrN_some en35
    obtain ⟨_, en36, h⟩ := bind1S h
    obtain ⟨_, en36⟩ := arrN_some en36
    refine L.storeArW (i := 1) (row := I) (k := 1) en35 en36 rfl (fun _ => rfl) (plain_ints _) sz57 rfl rfl rfl ?_
    refine L.y rfl (Y.assign rfl) ?_
    refine L.nil (E.thenN (W.ret (E.KSR ?_)))
    obtain ⟨_, en37, h⟩ := bind1S h
    obtain ⟨_, en37⟩ := arrN_some en37
    refine E.retR2 rfl (Rv.cellAr (i := 1) (row := I) (k := 1) ag57 sz57 rfl rfl (fun _ => rfl) (by rw [en37])) (Rv.tmp rfl) (fun w1 hw => ?_)
    obtain rfl := Option.some.inj h
    exact ⟨_, _, rfl, ⟨rfl, rfl⟩, hw.sel [] (by decide) rfl⟩
   ·
    refine L.nil (E.thenN (W.condF rfl ?_))
    exact W.skip (E.joinJ ⟨rfl, rfl, h⟩ ⟨rfl, rfl, rfl, trivial⟩ (fun _ hw => hw))
  ·
   rintro _ _ ⟨rfl, rfl, h⟩
   rw [m35_see_Last_K1] at h
   refine W.seq (W.region (L.alloc rfl ze59 ?_))
   intro b3
   refine L.to (D := Cls w [] [.obj b3 (((List.replicate 12 (false : Bool)).map B).flatten) 59, .obj b2 (((List.replicate 20 (0 : Int)).map I).flatten) 57, .obj b1 (((List.replicate 20 (0 : Int)).map I).flatten) 57]) (fun _ hw => by first | exact hw | simpa [I, B, SR] using hw) ?_
   refine L.nil (E.thenN (W.seqJ (fun gs D => ∃ (gl1 : (List Bool)), gs = [(0, u0), (2, pt b1 0), (4, pt b2 0), (6, pt b3 0)] ∧ D = Cls w [] [.obj b3 ((gl1.map B).flatten) 59, .obj b2 (((List.replicate 20 (0 : Int)).map I).flatten) 57, .obj b1 (((List.replicate 20 (0 : Int)).map I).flatten) 57] ∧ m35_see_Last_K2 a0 gl1 = some r) ?_ ?_))
   ·
    refine W.seq (W.region (L.y rfl (Y.move rfl) ?_))
    refine L.y rfl (Y.lenM (g := TOp.row) (l := a0) Try.underlying22 rfl (fun w' hw => hA0.cls0 hw)) ?_
    refine L.y rfl (Y.move rfl) ?_
    refine L.nil (E.thenN (W.block (W.loopJ (fun m gs D => ∃ (gx8 : Int) (gl9 : (List Bool)), gs = [(0, u0), (2, pt b1 0), (4, pt b2 0), (6, pt b3 0), (18, u0), (19, .int .i64 (a0.length : Int)), (20, .int .i64 gx8)] ∧ D = Cls w [] [.obj b3 ((gl9.map B).flatten) 59, .obj b2 (((List.replicate 20 (0 : Int)).map I).flatten) 57, .obj b1 (((List.replicate 20 (0 : Int)).map I).flatten) 57] ∧ m35_see_Last_L3 a0 m gx8 gl9 = some r) ⟨0, (List.replicate 12 (false : Bool)), rfl, rfl, h⟩ ⟨rfl, rfl, rfl, rfl, rfl, rfl, rfl, trivial⟩ (fun _ hw => hw) ?_)))
    rintro m _ _ ⟨gx8, gl9, rfl, rfl, h⟩
    rcases m with _ | m
    · rw [m35_see_Last_L3] at h; cases h
    rw [m35_see_Last_L3] at h
    generalize hg3 : m35_see_Last_L3 a0 m = go3 at h
    rw [m35_see_Last_L3B] at h
    refine W.seq (W.region (L.ite h rfl (Y.lss rfl rfl) (fun c23 h => ?_) (fun c23 h => ?_)))
    ·
     refine L.nil (E.thenN (W.seq (W.condT rfl ?_)))
     refine W.skip (E.thenN (W.seq (W.block (W.seq (W.region (L.m (V := fun _ => el u0 (gx8.toNat * 3)) h rfl (Y.indexM (g := TOp.row) (l := a0) Try.underlying22 sz30 rfl rfl (fun w' hw => hA0.cls0 hw)) (fun x24 ex24 h => ?_)))))))
     refine L.y rfl (Y.loadEN (r := [.int .i64 x24.Tx, .int .i64 x24.Kind, .int .i64 x24.Item]) ag30 sz30 rfl (fun w' hw => hA0.cls0 hw) (idx_map ex24) rfl) ?_
     refine L.alloc rfl ze30 ?_
     intro b25
     refine L.store (i := 0) (vs := [.int .i64 x24.Tx, .int .i64 x24.Kind, .int .i64 x24.Item]) sz30 rfl rfl rfl rfl (by simp [Value.oneCell', Value.cells, st, pt, el]) rfl (Nat.le_of_ble_eq_true rfl) ?_
     refine L.nil (E.thenN (W.seq (W.region (L.y rfl (Y.fieldP fd30_1 rfl) ?_))))
     refine L.y rfl (Y.loadP (i := 0) ag3 rfl rfl rfl) ?_
     refine L.ite h rfl (Y.eql rfl rfl) (fun c26 h => ?_) (fun c26 h => ?_)
     ·
      refine L.nil (E.thenN (W.condT rfl ?_))
      refine W.region (L.y rfl (Y.fieldP fd30_0 rfl) ?_)
      refine L.y rfl (Y.loadP (i := 0) ag3 rfl rfl rfl) ?_
      refine L.m (V := fun _ => pt b3 (0 + x24.Tx.toNat * 1)) h rfl (Y.indexAM (l := gl9) Try.underlying59 sz4 rfl rfl) (fun x27 ex27 h => ?_)
      refine L.storeArM (q := 1) (row := B) (vs := [.bool true]) (j := 0) (u1 := true) h sz4 rfl rfl rfl rfl rfl (all1 rfl all0) rfl (fun _ => rfl) (idxA_idx ex27) rfl rfl ?_
      intro l28 el28 h
      refine L.nil (E.blockN (E.thenN (W.region (L.m (V := fun x29 => .int .i64 x29) h rfl (Y.addM rfl rfl) (fun x29 ex29 h => ?_)))))
      refine L.y rfl (Y.move rfl) ?_
      exact L.nil (E.againJ ⟨x29, l28, rfl, rfl, by rw [hg3]; exact h⟩ (Nat.lt_succ_self _) ⟨rfl, rfl, rfl, rfl, rfl, rfl, rfl, trivial⟩ (fun _ hw => hw.sel [1, 2, 3] (by decide) rfl))
     ·
      refine L.nil (E.thenN (W.condF rfl ?_))
      refine W.skip (E.blockN (E.thenN (W.region (L.m (V := fun x30 => .int .i64 x30) h rfl (Y.addM rfl rfl) (fun x30 ex30 h => ?_)))))
      refine L.y rfl (Y.move rfl) ?_
      exact L.nil (E.againJ ⟨x30, gl9, rfl, rfl, by rw [hg3]; exact h⟩ (Nat.lt_succ_self _) ⟨rfl, rfl, rfl, rfl, rfl, rfl, rfl, trivial⟩ (fun _ hw => hw.sel [1, 2, 3] (by decide) rfl))
    ·
     refine L.nil (E.thenN (W.seq (W.condF rfl ?_)))
     exact W.exit (E.thenX (E.KLX (E.blockX (E.joinJ ⟨gl9, rfl, rfl, h⟩ ⟨rfl, rfl, rfl, rfl, trivial⟩ (fun _ hw => hw)))))
   ·
    rintro _ _ ⟨gl1, rfl, rfl, h⟩
    rw [m35_see_Last_K2] at h
    refine W.seqJ (fun gs D => ∃ (gl2 : (List Int)), gs = [(0, u0), (2, pt b1 0), (4, pt b2 0), (6, pt b3 0)] ∧ D = Cls w [] [.obj b3 ((gl1.map B).flatten) 59, .obj b2 ((gl2.map I).flatten) 57, .obj b1 (((List.replicate 20 (0 : Int)).map I).flatten) 57] ∧ m35_see_Last_K3 a0 gl1 gl2 = some r) ?_ ?_
    ·
     refine W.seq (W.region (L.y rfl (Y.move rfl) ?_))
     refine L.nil (E.thenN (W.block (W.loopJ (fun m gs D => ∃ (gx6 : Int) (gl7 : (List Int)), gs = [(0, u0), (2, pt b1 0), (4, pt b2 0), (6, pt b3 0), (31, .int .i64 gx6)] ∧ D = Cls w [] [.obj b3 ((gl1.map B).flatten) 59, .obj b2 ((gl7.map I).flatten) 57, .obj b1 (((List.replicate 20 (0 : Int)).map I).flatten) 57] ∧ m35_see_Last_L2 a0 gl1 m gx6 gl7 = some r) ⟨0, (List.replicate 20 (0 : Int)), rfl, rfl, h⟩ ⟨rfl, rfl, rfl, rfl, rfl, trivial⟩ (fun _ hw => hw) ?_)))
     rintro m _ _ ⟨gx6, gl7, rfl, rfl, h⟩
     rcases m with _ | m
     · rw [m35_see_Last_L2] at h; cases h
     rw [m35_see_Last_L2] at h
     generalize hg2 : m35_see_Last_L2 a0 gl1 m = go2 at h
     rw [m35_see_Last_L2B] at h
     refine W.seq (W.region (L.ite h rfl (Y.lss rfl rfl) (fun c19 h => ?_) (fun c19 h => ?_)))
     ·
      refine L.nil (E.thenN (W.seq (W.condT rfl ?_)))
      refine W.skip (E.thenN (W.seq (W.block (W.seq (W.region (L.y rfl (Y.move rfl) ?_))))))
      refine L.y rfl (Y.assign rfl) ?_
      refine L.nil (E.thenN (W.region (L.y rfl (Y.move rfl) ?_)))
      refine L.m (V := fun _ => pt b2 (0 + gx6.toNat * 1)) h rfl (Y.indexAM (l := gl7) Try.underlying57 sz3 rfl rfl) (fun x20 ex20 h => ?_)
      refine L.storeArM (q := 1) (row := I) (vs := [.int .i64 (-1)]) (j := 0) (u1 := (-1)) h sz3 rfl rfl rfl rfl rfl (all1 rfl all0) rfl (fun _ => rfl) (idxA_idx ex20) rfl rfl ?_
      intro l21 el21 h
      refine L.nil (E.blockN (E.thenN (W.region (L.m (V := fun x22 => .int .i64 x22) h rfl (Y.addM rfl rfl) (fun x22 ex22 h => ?_)))))
      refine L.y rfl (Y.move rfl) ?_
      exact L.nil (E.againJ ⟨x22, l21, rfl, rfl, by rw [hg2]; exact h⟩ (Nat.lt_succ_self _) ⟨rfl, rfl, rfl, rfl, rfl, trivial⟩ (fun _ hw => hw))
     ·
      refine L.nil (E.thenN (W.seq (W.condF rfl ?_)))
      exact W.exit (E.thenX (E.KLX (E.blockX (E.joinJ ⟨gl7, rfl, rfl, h⟩ ⟨rfl, rfl, rfl, rfl, trivial⟩ (fun _ hw => hw)))))
    ·
     rintro _ _ ⟨gl2, rfl, rfl, h⟩
     rw [m35_see_Last_K3] at h
     refine W.seqJ (fun gs D => ∃ (gl3 : (List Int)), gs = [(2, pt b1 0), (4, pt b2 0)] ∧ D = Cls w [] [.obj b2 ((gl3.map I).flatten) 57, .obj b1 (((List.replicate 20 (0 : Int)).map I).flatten) 57] ∧ m35_see_Last_K4 gl3 = some r) ?_ ?_
     ·
      refine W.seq (W.region (L.y rfl (Y.move rfl) ?_))
      refine L.y rfl (Y.lenM (g := TOp.row) (l := a0) Try.underlying22 rfl (fun w' hw => hA0.cls0 hw)) ?_
      refine L.y rfl (Y.move rfl) ?_
      refine L.nil (E.thenN (W.block (W.loopJ (fun m gs D => ∃ (gx4 : Int) (gl5 : (List Int)), gs = [(2, pt b1 0), (4, pt b2 0), (6, pt b3 0), (37, u0), (38, .int .i64 (a0.length : Int)), (39, .int .i64 gx4)] ∧ D = Cls w [] [.obj b3 ((gl1.map B).flatten) 59, .obj b2 ((gl5.map I).flatten) 57, .obj b1 (((List.replicate 20 (0 : Int)).map I).flatten) 57] ∧ m35_see_Last_L1 a0 gl1 m gx4 gl5 = some r) ⟨0, gl2, rfl, rfl, h⟩ ⟨rfl, rfl, rfl, rfl, rfl, rfl, trivial⟩ (fun _ hw => hw) ?_)))
      rintro m _ _ ⟨gx4, gl5, rfl, rfl, h⟩
      rcases m with _ | m
      · rw [m35_see_Last_L1] at h; cases h
      rw [m35_see_Last_L1] at h
      generalize hg1 : m35_see_Last_L1 a0 gl1 m = go1 at h
      rw [m35_see_Last_L1B] at h
      refine W.seq (W.region (L.ite h rfl (Y.lss rfl rfl) (fun c8 h => ?_) (fun c8 h => ?_)))
      ·
       refine L.nil (E.thenN (W.seq (W.condT rfl ?_)))
       refine W.skip (E.thenN (W.seq (W.block (W.seq (W.region (L.y rfl (Y.move rfl) ?_))))))
       refine L.m (V := fun _ => el u0 (gx4.toNat * 3)) h rfl (Y.indexM (g := TOp.row) (l := a0) Try.underlying22 sz30 rfl rfl (fun w' hw => hA0.cls0 hw)) (fun x9 ex9 h => ?_)
       refine L.y rfl (Y.loadEN (r := [.int .i64 x9.Tx, .int .i64 x9.Kind, .int .i64 x9.Item]) ag30 sz30 rfl (fun w' hw => hA0.cls0 hw) (idx_map ex9) rfl) ?_
       refine L.alloc rfl ze30 ?_
       intro b10
       refine L.y rfl (Y.assign rfl) ?_
       refine L.store (i := 0) (vs := [.int .i64 x9.Tx, .int .i64 x9.Kind, .int .i64 x9.Item]) sz30 rfl rfl rfl rfl (by simp [Value.oneCell', Value.cells, st, pt, el]) rfl (Nat.le_of_ble_eq_true rfl) ?_
       refine L.nil (E.thenN (W.seq (W.region (L.y rfl (Y.fieldP fd30_1 rfl) ?_))))
       refine L.y rfl (Y.loadP (i := 0) ag3 rfl rfl rfl) ?_
       refine L.ite h rfl (Y.eql rfl rfl) (fun c11 h => ?_) (fun c11 h => ?_)
       ·
        refine L.y rfl (Y.move rfl) ?_
        refine L.take rfl (L.y rfl (Y.fieldP fd30_0 rfl) ?_)
        refine L.take rfl (L.y rfl (Y.loadP (i := 0) ag3 rfl rfl rfl) ?_)
        refine L.take rfl (L.m (V := fun _ => pt b3 (0 + x9.Tx.toNat * 1)) h rfl (Y.indexAM (l := gl1) Try.underlying59 sz4 rfl rfl) (fun x12 ex12 h => ?_))
        refine L.take rfl (L.iteB h rfl (Y.loadAr (q := 1) (row := B) (j := 0) (p := .bool x12) ag4 rfl rfl rfl (fun _ => rfl) (idxA_idx ex12) rfl) (fun c13 h => ?_) (fun c13 h => ?_))
        ·
         refine L.take rfl (L.y rfl (Y.not rfl) ?_)
         refine L.y rfl (Y.pickT rfl rfl) ?_
         refine L.nil (E.thenN (W.condF rfl ?_))
         refine W.skip (E.blockN (E.thenN (W.region (L.m (V := fun x14 => .int .i64 x14) h rfl (Y.addM rfl rfl) (fun x14 ex14 h => ?_)))))
         refine L.y rfl (Y.move rfl) ?_
         exact L.nil (E.againJ ⟨x14, gl5, rfl, rfl, by rw [hg1]; exact h⟩ (Nat.lt_succ_self _) ⟨rfl, rfl, rfl, rfl, rfl, rfl, trivial⟩ (fun _ hw => hw.sel [1, 2, 3] (by decide) rfl))
        ·
         refine L.take rfl (L.y rfl (Y.not rfl) ?_)
         refine L.y rfl (Y.pickT rfl rfl) ?_
         refine L.nil (E.thenN (W.condT rfl ?_))
         refine W.region (L.y rfl (Y.fieldP fd30_2 rfl) ?_)
         refine L.y rfl (Y.loadP (i := 0) ag3 rfl rfl rfl) ?_
         refine L.y rfl (Y.move rfl) ?_
         refine L.m (V := fun _ => pt b2 (0 + x9.Item.toNat * 1)) h rfl (Y.indexAM (l := gl5) Try.underlying57 sz3 rfl rfl) (fun x15 ex15 h => ?_)
         refine L.storeArM (q := 2) (row := I) (vs := [.int .i64 gx4]) (j := 0) (u1 := gx4) h sz3 rfl rfl rfl rfl rfl (all1 rfl all0) rfl (fun _ => rfl) (idxA_idx ex15) rfl rfl ?_
         intro l16 el16 h
         refine L.nil (E.blockN (E.thenN (W.region (L.m (V := fun x17 => .int .i64 x17) h rfl (Y.addM rfl rfl) (fun x17 ex17 h => ?_)))))
         refine L.y rfl (Y.move rfl) ?_
         exact L.nil (E.againJ ⟨x17, l16, rfl, rfl, by rw [hg1]; exact h⟩ (Nat.lt_succ_self _) ⟨rfl, rfl, rfl, rfl, rfl, rfl, trivial⟩ (fun _ hw => hw.sel [1, 2, 3] (by decide) rfl))
       ·
        refine L.y rfl (Y.move rfl) ?_
        refine L.pass rfl rfl (by nofun) ?_
        refine L.pass rfl rfl (by nofun) ?_
        refine L.pass rfl rfl (by nofun) ?_
        refine L.pass rfl rfl (by nofun) ?_
        refine L.pass rfl rfl (by nofun) ?_
        refine L.y rfl (Y.pickF rfl rfl) ?_
        refine L.nil (E.thenN (W.condF rfl ?_))
        refine W.skip (E.blockN (E.thenN (W.region (L.m (V := fun x18 => .int .i64 x18) h rfl (Y.addM rfl rfl) (fun x18 ex18 h => ?_)))))
        refine L.y rfl (Y.move rfl) ?_
        exact L.nil (E.againJ ⟨x18, gl5, rfl, rfl, by rw [hg1]; exact h⟩ (Nat.lt_succ_self _) ⟨rfl, rfl, rfl, rfl, rfl, rfl, trivial⟩ (fun _ hw => hw.sel [1, 2, 3] (by decide) rfl))
      ·
       refine L.nil (E.thenN (W.seq (W.condF rfl ?_)))
       exact W.exit (E.thenX (E.KLX (E.blockX (E.joinJ ⟨gl5, rfl, rfl, h⟩ ⟨rfl, rfl, trivial⟩ (fun _ hw => hw.sel [1, 2] (by decide) rfl)))))
     ·
      rintro _ _ ⟨gl3, rfl, rfl, h⟩
      rw [m35_see_Last_K4] at h
      refine W.seq (W.region ?_)
      obtain ⟨_, en4, h⟩ := bind1S h
      obtain ⟨_, en4⟩ := arrN_some en4
      refine L.y rfl (Y.loadArAll (q := 0) (row := I) (k := 1) ag57 sz57 rfl rfl (fun _ => rfl) (by rw [en4])) ?_
      obtain ⟨_, en5, h⟩ := bind1S h
      obtain ⟨_, en5⟩ := arrN_some en5
      obtain ⟨_, en6, h⟩ := bind1S h
      obtain ⟨_, en6⟩ := arrN_some en6
      refine L.storeArW (i := 1) (row := I) (k := 1) en5 en6 rfl (fun _ => rfl) (plain_ints _) sz57 rfl rfl rfl ?_
      refine L.y rfl (Y.assign rfl) ?_
      refine L.nil (E.thenN (W.ret ?_))
      obtain ⟨_, en7, h⟩ := bind1S h
      obtain ⟨_, en7⟩ := arrN_some en7
      refine E.retR2 rfl (Rv.cellAr (i := 1) (row := I) (k := 1) ag57 sz57 rfl rfl (fun _ => rfl) (by rw [en7])) (Rv.tmp rfl) (fun w1 hw => ?_)
      obtain rfl := Option.some.inj h
      exact ⟨_, _, rfl, ⟨rfl, rfl⟩, hw.sel [] (by decide) rfl⟩
set_option maxRecDepth 100000 in
set_option maxHeartbeats 8000000 in
theorem w17_see_view (a0 : (List TOp)) (u0 : Value) (w : World) (r : ((List (Tname × Tname)) × (List Tname))) (h : m17_see_view a0 = some r) (hA0 : At w u0 3 (a0.map TOp.row)) : Does Try.prog 17 [u0] w fun u m => ∃ v0, u = .tuple #[.map (some v0), .agg (r.2.map Tname.row).flatten.toArray] ∧ m = [.mq v0 (krow (VA Tname.row) (VA Tname.row) r.1)] := by
  rw [m17_see_view] at h
  refine body (n := 60) Try.func17 rfl rfl rfl (Cls.refl w) ?_
  refine W.seq (W.region (L.y rfl (Y.assign rfl) ?_))
  refine L.alloc rfl ze42 ?_
  intro b1
  refine L.to (D := Cls w [] [.obj b1 (((List.replicate 20 ((⟨0, 0⟩ : Tname) : Tname)).map Tname.row).flatten) 42]) (fun _ hw => by first | exact hw | simpa [I, B, SR] using hw) ?_
  refine L.nil (E.thenN (W.seq (W.region (L.y rfl (Y.move rfl) ?_))))
  obtain ⟨l2, e4, h⟩ := bind1S h
  refine L.does rfl en32 rfl (fun w' hw => w32_see_names a0 u0 w' _ e4 (hA0.cls0 hw)) ?_
  rintro v3 _ ⟨_, rfl, rfl⟩
  refine L.alloc rfl ze66 ?_
  intro b5
  refine L.storeV (i := 0) sz66 rfl rfl (fun _ hw => (As.at_ (hw.get (i := 1) rfl)).one) rfl (Nat.le_of_ble_eq_true rfl) ?_
  refine L.nil (E.thenN (W.seq (W.region (L.y rfl (Y.func rfl) ?_))))
  refine L.y rfl (Y.assign rfl) ?_
  refine L.nil (E.thenN (W.seq (W.region (L.makeMapq rfl ?_))))
  intro b6
  refine L.y rfl (Y.assign rfl) ?_
  refine L.nil (E.thenN (W.seq (W.region (L.y rfl (Y.move rfl) ?_))))
  obtain ⟨l7, x9, e10, h⟩ := bind2S h
  refine L.does rfl en34 rfl (fun w' hw => w34_see_Reads a0 u0 w' _ e10 (hA0.cls0 hw)) ?_
  rintro _ _ ⟨v8, rfl, rfl⟩
  refine L.y rfl (Y.move rfl) ?_
  refine L.y rfl (Y.extract rfl rfl) ?_
  refine L.y rfl (Y.extract rfl rfl) ?_
  refine L.y rfl (Y.assign rfl) ?_
  refine L.y rfl (Y.assign rfl) ?_
  refine L.nil (E.thenN (W.seqJ (fun gs D => ∃ (gl1 : (List (Tname × Tname))), gs = [(0, u0), (3, pt b1 0), (5, .func (.func 33) #[] #[pt b5 0]), (6, .map (some b6))] ∧ D = Cls w [] [.mq b6 (krow (VA Tname.row) (VA Tname.row) gl1), .obj b5 [v3] 66, .obj b1 (((List.replicate 20 ((⟨0, 0⟩ : Tname) : Tname)).map Tname.row).flatten) 42, .sl v3 41 2 (l2.map Tname.row)] ∧ m17_see_view_K1 a0 l2 gl1 = some r) ?_ ?_))
  ·
   refine W.seq (W.region (L.y rfl (Y.move rfl) ?_))
   refine L.y rfl (Y.lenM (g := TSeen.row) (l := l7) Try.underlying50 rfl (fun w hw => As.at_ (hw.get (i := 0) rfl))) ?_
   refine L.y rfl (Y.move rfl) ?_
   refine L.nil (E.thenN (W.block (W.loopJ (fun m gs D => ∃ (gx7 : Int) (gl8 : (List (Tname × Tname))), gs = [(0, u0), (3, pt b1 0), (4, pt b5 0), (5, .func (.func 33) #[] #[pt b5 0]), (6, .map (some b6)), (25, v8), (26, .int .i64 (l7.length : Int)), (27, .int .i64 gx7)] ∧ D = Cls w [] [.mq b6 (krow (VA Tname.row) (VA Tname.row) gl8), .obj b5 [v3] 66, .obj b1 (((List.replicate 20 ((⟨0, 0⟩ : Tname) : Tname)).map Tname.row).flatten) 42, .sl v8 53 2 (l7.map TSeen.row), .sl v3 41 2 (l2.map Tname.row)] ∧ m17_see_view_L2 l7 l2 a0 m gx7 gl8 = some r) ⟨0, [], rfl, rfl, h⟩ ⟨rfl, rfl, rfl, rfl, rfl, rfl, rfl, rfl, trivial⟩ (fun _ hw => hw.sel [1, 2, 4, 0, 3] (by decide) rfl) ?_)))
   rintro m _ _ ⟨gx7, gl8, rfl, rfl, h⟩
   rcases m with _ | m
   · rw [m17_see_view_L2] at h; cases h
   rw [m17_see_view_L2] at h
   generalize hg2 : m17_see_view_L2 l7 l2 a0 m = go2 at h
   rw [m17_see_view_L2B] at h
   refine W.seq (W.region (L.ite h rfl (Y.lss rfl rfl) (fun c34 h => ?_) (fun c34 h => ?_)))
   ·
    refine L.nil (E.thenN (W.seq (W.condT rfl ?_)))
    refine W.skip (E.thenN (W.seq (W.block (W.seq (W.region (L.m (V := fun _ => el v8 (gx7.toNat * 2)) h rfl (Y.indexM (g := TSeen.row) (l := l7) Try.underlying50 sz53 rfl rfl (fun w hw => As.at_ (hw.get (i := 3) rfl))) (fun x35 ex35 h => ?_)))))))
    refine L.y rfl (Y.loadEN (r := [.int .i64 x35.At, .int .i64 x35.From]) ag53 sz53 rfl (fun w hw => As.at_ (hw.get (i := 3) rfl)) (idx_map ex35) rfl) ?_
    refine L.alloc rfl ze53 ?_
    intro b36
    refine L.store (i := 0) (vs := [.int .i64 x35.At, .int .i64 x35.From]) sz53 rfl rfl rfl rfl (by simp [Value.oneCell', Value.cells, st, pt, el]) rfl (Nat.le_of_ble_eq_true rfl) ?_
    refine L.nil (E.thenN (W.drawn2 (k := 11) (stC [[10]] [Cls w [] [.obj b36 [.int .i64 x35.At, .int .i64 x35.From] 53, .mq b6 (krow (VA Tname.row) (VA Tname.row) gl8), .obj b5 [v3] 66, .obj b1 (((List.replicate 20 ((⟨0, 0⟩ : Tname) : Tname)).map Tname.row).flatten) 42, .sl v8 53 2 (l7.map TSeen.row), .sl v3 41 2 (l2.map Tname.row)]] (Cls w [] [.obj b36 [.int .i64 x35.At, .int .i64 x35.From] 53, .obj b5 [v3] 66, .obj b1 (((List.replicate 20 ((⟨0, 0⟩ : Tname) : Tname)).map Tname.row).flatten) 42, .sl v8 53 2 (l7.map TSeen.row), .sl v3 41 2 (l2.map Tname.row)])) rfl mixed (fun _ hw => hw.drew) (Sc.now (by kernel_rfl) (fun _ hw => hw)) ?_))
    refine V2.y (i := 0) (Nx2.of (Z := Cls w [] [.obj b36 [.int .i64 x35.At, .int .i64 x35.From] 53, .obj b5 [v3] 66, .obj b1 (((List.replicate 20 ((⟨0, 0⟩ : Tname) : Tname)).map Tname.row).flatten) 42, .sl v8 53 2 (l7.map TSeen.row), .sl v3 41 2 (l2.map Tname.row)]) [] (by kernel_rfl) rfl (Zc.on (fun _ hw => hw.sel [0, 2, 3, 4, 5] (by decide) rfl) (Zc.fin (fun _ hw => hw)))) rfl rfl rfl (Y.move rfl) ?_
    refine V2.y (i := 1) (Nx2.of (Z := Cls w [] [.obj b36 [.int .i64 x35.At, .int .i64 x35.From] 53, .obj b5 [v3] 66, .obj b1 (((List.replicate 20 ((⟨0, 0⟩ : Tname) : Tname)).map Tname.row).flatten) 42, .sl v8 53 2 (l7.map TSeen.row), .sl v3 41 2 (l2.map Tname.row)]) [] (by kernel_rfl) rfl (Zc.on (fun _ hw => hw.sel [0, 2, 3, 4, 5] (by decide) rfl) (Zc.fin (fun _ hw => hw)))) rfl rfl rfl (Y.loadP (i := 1) ag66 rfl rfl rfl) ?_
    refine V2.y (i := 2) (Nx2.of (Z := Cls w [] [.obj b36 [.int .i64 x35.At, .int .i64 x35.From] 53, .obj b5 [v3] 66, .obj b1 (((List.replicate 20 ((⟨0, 0⟩ : Tname) : Tname)).map Tname.row).flatten) 42, .sl v8 53 2 (l7.map TSeen.row), .sl v3 41 2 (l2.map Tname.row)]) [] (by kernel_rfl) rfl (Zc.on (fun _ hw => hw.sel [0, 2, 3, 4, 5] (by decide) rfl) (Zc.fin (fun _ hw => hw)))) rfl rfl rfl (Y.fieldP fd53_0 rfl) ?_
    refine V2.y (i := 3) (Nx2.of (Z := Cls w [] [.obj b36 [.int .i64 x35.At, .int .i64 x35.From] 53, .obj b5 [v3] 66, .obj b1 (((List.replicate 20 ((⟨0, 0⟩ : Tname) : Tname)).map Tname.row).flatten) 42, .sl v8 53 2 (l7.map TSeen.row), .sl v3 41 2 (l2.map Tname.row)]) [] (by kernel_rfl) rfl (Zc.on (fun _ hw => hw.sel [0, 2, 3, 4, 5] (by decide) rfl) (Zc.fin (fun _ hw => hw)))) rfl rfl rfl (Y.loadP (i := 0) ag3 rfl rfl rfl) ?_
    refine V2.m (i := 4) (V' := fun _ => el v3 (x35.At.toNat * 2)) h (Nx2.of (Z := Cls w [] [.obj b36 [.int .i64 x35.At, .int .i64 x35.From] 53, .obj b5 [v3] 66, .obj b1 (((List.replicate 20 ((⟨0, 0⟩ : Tname) : Tname)).map Tname.row).flatten) 42, .sl v8 53 2 (l7.map TSeen.row), .sl v3 41 2 (l2.map Tname.row)]) [] (by kernel_rfl) rfl (Zc.on (fun _ hw => hw.sel [0, 2, 3, 4, 5] (by decide) rfl) (Zc.fin (fun _ hw => hw)))) rfl rfl rfl (Y.indexM (g := Tname.row) (l := l2) Try.underlying66 sz41 rfl rfl (fun w hw => As.at_ (hw.get (i := 4) rfl))) (fun x39 ex39 h => ?_)
    refine V2.y (i := 5) (Nx2.of (Z := Cls w [] [.obj b36 [.int .i64 x35.At, .int .i64 x35.From] 53, .obj b5 [v3] 66, .obj b1 (((List.replicate 20 ((⟨0, 0⟩ : Tname) : Tname)).map Tname.row).flatten) 42, .sl v8 53 2 (l7.map TSeen.row), .sl v3 41 2 (l2.map Tname.row)]) [] (by kernel_rfl) rfl (Zc.on (fun _ hw => hw.sel [0, 2, 3, 4, 5] (by decide) rfl) (Zc.fin (fun _ hw => hw)))) rfl rfl rfl (Y.loadEN (r := [.int .i64 x39.tx_, .int .i64 x39.n_]) ag41 sz41 rfl (fun w hw => As.at_ (hw.get (i := 4) rfl)) (idx_map ex39) rfl) ?_
    refine V2.y (i := 6) (Nx2.of (Z := Cls w [] [.obj b36 [.int .i64 x35.At, .int .i64 x35.From] 53, .obj b5 [v3] 66, .obj b1 (((List.replicate 20 ((⟨0, 0⟩ : Tname) : Tname)).map Tname.row).flatten) 42, .sl v8 53 2 (l7.map TSeen.row), .sl v3 41 2 (l2.map Tname.row)]) [] (by kernel_rfl) rfl (Zc.on (fun _ hw => hw.sel [0, 2, 3, 4, 5] (by decide) rfl) (Zc.fin (fun _ hw => hw)))) rfl rfl rfl (Y.move rfl) ?_
    refine V2.y (i := 7) (Nx2.of (Z := Cls w [] [.obj b36 [.int .i64 x35.At, .int .i64 x35.From] 53, .obj b5 [v3] 66, .obj b1 (((List.replicate 20 ((⟨0, 0⟩ : Tname) : Tname)).map Tname.row).flatten) 42, .sl v8 53 2 (l7.map TSeen.row), .sl v3 41 2 (l2.map Tname.row)]) [] (by kernel_rfl) rfl (Zc.on (fun _ hw => hw.sel [0, 2, 3, 4, 5] (by decide) rfl) (Zc.fin (fun _ hw => hw)))) rfl rfl rfl (Y.fieldP fd53_1 rfl) ?_
    refine V2.y (i := 8) (Nx2.of (Z := Cls w [] [.obj b36 [.int .i64 x35.At, .int .i64 x35.From] 53, .obj b5 [v3] 66, .obj b1 (((List.replicate 20 ((⟨0, 0⟩ : Tname) : Tname)).map Tname.row).flatten) 42, .sl v8 53 2 (l7.map TSeen.row), .sl v3 41 2 (l2.map Tname.row)]) [] (by kernel_rfl) rfl (Zc.on (fun _ hw => hw.sel [0, 2, 3, 4, 5] (by decide) rfl) (Zc.fin (fun _ hw => hw)))) rfl rfl rfl (Y.loadP (i := 0) ag3 rfl rfl rfl) ?_
    refine V2.eff (i := 9) (by kernel_rfl) rfl ?_
    refine L.callVJ (fun v D => ∃ (gx11 : Int) (gx12 : Int), v = .agg #[.int .i64 gx11, .int .i64 gx12] ∧ D = Cls w [] [.obj b36 [.int .i64 x35.At, .int .i64 x35.From] 53, .mq b6 (krow (VA Tname.row) (VA Tname.row) gl8), .obj b5 [v3] 66, .obj b1 (((List.replicate 20 ((⟨0, 0⟩ : Tname) : Tname)).map Tname.row).flatten) 42, .sl v8 53 2 (l7.map TSeen.row), .sl v3 41 2 (l2.map Tname.row)] ∧ m17_see_view_K4 gl8 x39 gx7 go2 gx11 gx12 = some r) rfl en33 rfl rfl Try.func33 rfl rfl rfl ?_ ?_
    ·
     refine W.seq (W.region (L.alloc rfl ze41 ?_))
     intro b42
     refine L.nil (E.thenN (W.seq (W.seq (W.region (L.y rfl (Y.move rfl) ?_)))))
     refine L.ite h rfl (Y.lss rfl rfl) (fun c43 h => ?_) (fun c43 h => ?_)
     ·
      refine L.nil (E.thenN (W.condT rfl ?_))
      refine W.seq (W.region (L.y rfl (Y.build (cells := #[.int .i64 (-1), .int .i64 (-1)]) rfl (by kernel_rfl)) ?_))
      refine L.store (i := 0) (vs := [.int .i64 (-1), .int .i64 (-1)]) sz41 rfl rfl rfl rfl (by simp [Value.oneCell', Value.cells, st, pt, el]) rfl (Nat.le_of_ble_eq_true rfl) ?_
      refine L.nil (E.thenN (W.ret (E.thenR (E.retR1 rfl (Rv.cellW (i := 0) ag41 sz41 rfl rfl rfl) (fun w1 hw => ?_)))))
      exact ⟨_, _, rfl, ⟨(-1), (-1), rfl, rfl, h⟩, hw.sel [1, 2, 3, 4, 5, 6] (by decide) rfl⟩
     ·
      refine L.nil (E.thenN (W.condF rfl ?_))
      refine W.skip (E.thenN (W.seq (W.region (L.y rfl (Y.loadP (i := 3) ag66 rfl rfl rfl) ?_))))
      refine L.y rfl (Y.move rfl) ?_
      refine L.m (V := fun _ => el v3 (x35.From.toNat * 2)) h rfl (Y.indexM (g := Tname.row) (l := l2) Try.underlying66 sz41 rfl rfl (fun w hw => As.at_ (hw.get (i := 6) rfl))) (fun x44 ex44 h => ?_)
      refine L.y rfl (Y.loadEN (r := [.int .i64 x44.tx_, .int .i64 x44.n_]) ag41 sz41 rfl (fun w hw => As.at_ (hw.get (i := 6) rfl)) (idx_map ex44) rfl) ?_
      refine L.store (i := 0) (vs := [.int .i64 x44.tx_, .int .i64 x44.n_]) sz41 rfl rfl rfl rfl (by simp [Value.oneCell', Value.cells, st, pt, el]) rfl (Nat.le_of_ble_eq_true rfl) ?_
      refine L.nil (E.thenN (W.ret (E.retR1 rfl (Rv.cellW (i := 0) ag41 sz41 rfl rfl rfl) (fun w1 hw => ?_))))
      exact ⟨_, _, rfl, ⟨x44.tx_, x44.n_, rfl, rfl, h⟩, hw.sel [1, 2, 3, 4, 5, 6] (by decide) rfl⟩
    ·
     rintro _ _ ⟨gx11, gx12, rfl, rfl, h⟩
     rw [m17_see_view_K4] at h
     refine L.nil (E.toV2 (stC [[10]] [Cls w [] [.obj b36 [.int .i64 x35.At, .int .i64 x35.From] 53, .mq b6 (krow (VA Tname.row) (VA Tname.row) gl8), .obj b5 [v3] 66, .obj b1 (((List.replicate 20 ((⟨0, 0⟩ : Tname) : Tname)).map Tname.row).flatten) 42, .sl v8 53 2 (l7.map TSeen.row), .sl v3 41 2 (l2.map Tname.row)]] (Cls w [] [.obj b36 [.int .i64 x35.At, .int .i64 x35.From] 53, .obj b5 [v3] 66, .obj b1 (((List.replicate 20 ((⟨0, 0⟩ : Tname) : Tname)).map Tname.row).flatten) 42, .sl v8 53 2 (l7.map TSeen.row), .sl v3 41 2 (l2.map Tname.row)])) 9 (by kernel_rfl) (Sc.stay (fun _ hw => hw) (Sc.stayD (fun _ hw => hw))) (Sc.now (by kernel_rfl) (fun _ hw => hw)) ?_)
     refine V2.eff (i := 10) (by kernel_rfl) rfl ?_
     refine L.mapSetq (a := x39) (i := 1) (g := (VA Tname.row)) (lm := gl8) (v0 := (⟨gx11, gx12⟩ : Tname)) Try.underlying39 kt41 rfl rfl rfl rfl ?_
     obtain ⟨l40, el40, h⟩ := bind1S h
     obtain rfl := Option.some.inj el40
     refine L.nil (E.toV2 (stC [] [] (Cls w [] [.obj b36 [.int .i64 x35.At, .int .i64 x35.From] 53, .obj b5 [v3] 66, .obj b1 (((List.replicate 20 ((⟨0, 0⟩ : Tname) : Tname)).map Tname.row).flatten) 42, .sl v8 53 2 (l7.map TSeen.row), .sl v3 41 2 (l2.map Tname.row)])) 10 (by kernel_rfl) (Sc.past rfl (Sc.stayD (fun _ hw => hw))) (Sc.atD (fun _ hw => hw.sel [0, 2, 3, 4, 5] (by decide) rfl)) ?_)
     refine V2.done (by kernel_rfl) ?_
     refine E.blockN (E.thenN (W.region (L.m (V := fun x41 => .int .i64 x41) h rfl (Y.addM rfl rfl) (fun x41 ex41 h => ?_))))
     refine L.y rfl (Y.move rfl) ?_
     exact L.nil (E.againJ ⟨x41, kset gl8 x39 (⟨gx11, gx12⟩ : Tname), rfl, rfl, by rw [hg2]; exact h⟩ (Nat.lt_succ_self _) ⟨rfl, rfl, rfl, rfl, rfl, rfl, rfl, rfl, trivial⟩ (fun _ hw => hw.sel [1, 2, 3, 4, 5] (by decide) rfl))
   ·
    refine L.nil (E.thenN (W.seq (W.condF rfl ?_)))
    exact W.exit (E.thenX (E.KLX (E.blockX (E.joinJ ⟨gl8, rfl, rfl, h⟩ ⟨rfl, rfl, rfl, rfl, trivial⟩ (fun _ hw => hw.sel [0, 1, 2, 4] (by decide) rfl)))))
  ·
   rintro _ _ ⟨gl1, rfl, rfl, h⟩
   rw [m17_see_view_K1] at h
   refine W.seq (W.region (L.alloc rfl ze42 ?_))
   intro b11
   refine L.to (D := Cls w [] [.obj b11 (((List.replicate 20 ((⟨0, 0⟩ : Tname) : Tname)).map Tname.row).flatten) 42, .mq b6 (krow (VA Tname.row) (VA Tname.row) gl1), .obj b5 [v3] 66, .obj b1 (((List.replicate 20 ((⟨0, 0⟩ : Tname) : Tname)).map Tname.row).flatten) 42, .sl v3 41 2 (l2.map Tname.row)]) (fun _ hw => by first | exact hw | simpa [I, B, SR] using hw) ?_
   refine L.nil (E.thenN (W.seq (W.region (L.y rfl (Y.move rfl) ?_))))
   obtain ⟨x12, x13, e14, h⟩ := bind2S h
   refine L.y rfl (Y.does en35 rfl (fun w' hw => (w35_see_Last a0 u0 w' _ e14 (hA0.cls0 hw)).mono (fun _ _ h => h.1))) ?_
   refine L.y rfl (Y.move rfl) ?_
   refine L.y rfl (Y.extract rfl rfl) ?_
   refine L.y rfl (Y.extract rfl rfl) ?_
   refine L.alloc rfl ze57 ?_
   intro b15
   refine L.to (D := Cls w [] [.obj b15 (((List.replicate 20 (0 : Int)).map I).flatten) 57, .obj b11 (((List.replicate 20 ((⟨0, 0⟩ : Tname) : Tname)).map Tname.row).flatten) 42, .mq b6 (krow (VA Tname.row) (VA Tname.row) gl1), .obj b5 [v3] 66, .obj b1 (((List.replicate 20 ((⟨0, 0⟩ : Tname) : Tname)).map Tname.row).flatten) 42, .sl v3 41 2 (l2.map Tname.row)]) (fun _ hw => by first | exact hw | simpa [I, B, SR] using hw) ?_
   obtain ⟨_, en16, h⟩ := bind1S h
   obtain ⟨_, en16⟩ := arrN_some en16
   obtain ⟨_, en17, h⟩ := bind1S h
   obtain ⟨_, en17⟩ := arrN_some en17
   refine L.storeArW (i := 0) (row := I) (k := 1) en16 en17 rfl (fun _ => rfl) (plain_ints _) sz57 rfl rfl rfl ?_
   refine L.y rfl (Y.assign rfl) ?_
   refine L.nil (E.thenN (W.seqJ (fun gs D => ∃ (gl2 : (List Tname)), gs = [(3, pt b1 0), (6, .map (some b6)), (11, pt b11 0)] ∧ D = Cls w [] [.obj b11 ((gl2.map Tname.row).flatten) 42, .mq b6 (krow (VA Tname.row) (VA Tname.row) gl1), .obj b1 (((List.replicate 20 ((⟨0, 0⟩ : Tname) : Tname)).map Tname.row).flatten) 42] ∧ m17_see_view_K2 gl1 gl2 = some r) ?_ ?_))
   ·
    refine W.seq (W.region ?_)
    obtain ⟨_, en25, h⟩ := bind1S h
    obtain ⟨_, en25⟩ := arrN_some en25
    refine L.y rfl (Y.loadArAll (q := 0) (row := I) (k := 1) ag57 sz57 rfl rfl (fun _ => rfl) (by rw [en25])) ?_
    refine L.y rfl (Y.move rfl) ?_
    refine L.nil (E.thenN (W.block (W.loopJ (fun m gs D => ∃ (gx3 : Int) (gl4 : (List Tname)), gs = [(3, pt b1 0), (5, .func (.func 33) #[] #[pt b5 0]), (6, .map (some b6)), (11, pt b11 0), (47, .agg (x12.map I).flatten.toArray), (48, .int .i64 gx3)] ∧ D = Cls w [] [.obj b11 ((gl4.map Tname.row).flatten) 42, .mq b6 (krow (VA Tname.row) (VA Tname.row) gl1), .obj b5 [v3] 66, .obj b1 (((List.replicate 20 ((⟨0, 0⟩ : Tname) : Tname)).map Tname.row).flatten) 42, .sl v3 41 2 (l2.map Tname.row)] ∧ m17_see_view_L1 x12 l2 gl1 m gx3 gl4 = some r) ⟨0, (List.replicate 20 ((⟨0, 0⟩ : Tname) : Tname)), rfl, rfl, h⟩ ⟨rfl, rfl, rfl, rfl, rfl, rfl, trivial⟩ (fun _ hw => hw.sel [1, 2, 3, 4, 5] (by decide) rfl) ?_)))
    rintro m _ _ ⟨gx3, gl4, rfl, rfl, h⟩
    rcases m with _ | m
    · rw [m17_see_view_L1] at h; cases h
    rw [m17_see_view_L1] at h
    generalize hg1 : m17_see_view_L1 x12 l2 gl1 m = go1 at h
    rw [m17_see_view_L1B] at h
    refine W.seq (W.region (L.ite h rfl (Y.lss rfl rfl) (fun c26 h => ?_) (fun c26 h => ?_)))
    ·
     refine L.nil (E.thenN (W.seq (W.condT rfl ?_)))
     refine W.skip (E.thenN (W.seq (W.block (W.seq (W.region (L.y rfl (Y.move rfl) ?_))))))
     obtain ⟨x27, ex27, h⟩ := bind1S h
     refine L.y rfl (Y.idxArr1 (l := x12) (row := I) (p := .int .i64 x27) Try.underlying57 ag3 sz3 rfl rfl (fun _ => rfl) ex27 rfl) ?_
     refine L.y rfl (Y.assign rfl) ?_
     refine L.y rfl (Y.assign rfl) ?_
     refine L.nil (E.thenN (W.region (L.y rfl (Y.move rfl) ?_)))
     refine L.y rfl (Y.move rfl) ?_
     refine L.y rfl (Y.move rfl) ?_
     refine L.callVJ (fun v D => ∃ (gx5 : Int) (gx6 : Int), v = .agg #[.int .i64 gx5, .int .i64 gx6] ∧ D = Cls w [] [.obj b11 ((gl4.map Tname.row).flatten) 42, .mq b6 (krow (VA Tname.row) (VA Tname.row) gl1), .obj b5 [v3] 66, .obj b1 (((List.replicate 20 ((⟨0, 0⟩ : Tname) : Tname)).map Tname.row).flatten) 42, .sl v3 41 2 (l2.map Tname.row)] ∧ m17_see_view_K3 gl4 gx3 go1 gx5 gx6 = some r) rfl en33 rfl rfl Try.func33 rfl rfl rfl ?_ ?_
     ·
      refine W.seq (W.region (L.alloc rfl ze41 ?_))
      intro b31
      refine L.nil (E.thenN (W.seq (W.seq (W.region (L.y rfl (Y.move rfl) ?_)))))
      refine L.ite h rfl (Y.lss rfl rfl) (fun c32 h => ?_) (fun c32 h => ?_)
      ·
       refine L.nil (E.thenN (W.condT rfl ?_))
       refine W.seq (W.region (L.y rfl (Y.build (cells := #[.int .i64 (-1), .int .i64 (-1)]) rfl (by kernel_rfl)) ?_))
       refine L.store (i := 0) (vs := [.int .i64 (-1), .int .i64 (-1)]) sz41 rfl rfl rfl rfl (by simp [Value.oneCell', Value.cells, st, pt, el]) rfl (Nat.le_of_ble_eq_true rfl) ?_
       refine L.nil (E.thenN (W.ret (E.thenR (E.retR1 rfl (Rv.cellW (i := 0) ag41 sz41 rfl rfl rfl) (fun w1 hw => ?_)))))
       exact ⟨_, _, rfl, ⟨(-1), (-1), rfl, rfl, h⟩, hw.sel [1, 2, 3, 4, 5] (by decide) rfl⟩
      ·
       refine L.nil (E.thenN (W.condF rfl ?_))
       refine W.skip (E.thenN (W.seq (W.region (L.y rfl (Y.loadP (i := 3) ag66 rfl rfl rfl) ?_))))
       refine L.y rfl (Y.move rfl) ?_
       refine L.m (V := fun _ => el v3 (x27.toNat * 2)) h rfl (Y.indexM (g := Tname.row) (l := l2) Try.underlying66 sz41 rfl rfl (fun w hw => As.at_ (hw.get (i := 5) rfl))) (fun x33 ex33 h => ?_)
       refine L.y rfl (Y.loadEN (r := [.int .i64 x33.tx_, .int .i64 x33.n_]) ag41 sz41 rfl (fun w hw => As.at_ (hw.get (i := 5) rfl)) (idx_map ex33) rfl) ?_
       refine L.store (i := 0) (vs := [.int .i64 x33.tx_, .int .i64 x33.n_]) sz41 rfl rfl rfl rfl (by simp [Value.oneCell', Value.cells, st, pt, el]) rfl (Nat.le_of_ble_eq_true rfl) ?_
       refine L.nil (E.thenN (W.ret (E.retR1 rfl (Rv.cellW (i := 0) ag41 sz41 rfl rfl rfl) (fun w1 hw => ?_))))
       exact ⟨_, _, rfl, ⟨x33.tx_, x33.n_, rfl, rfl, h⟩, hw.sel [1, 2, 3, 4, 5] (by decide) rfl⟩
     ·
      rintro _ _ ⟨gx5, gx6, rfl, rfl, h⟩
      rw [m17_see_view_K3] at h
      refine L.m (V := fun _ => pt b11 (0 + gx3.toNat * 2)) h rfl (Y.indexAM (l := gl4) Try.underlying42 sz41 rfl rfl) (fun x28 ex28 h => ?_)
      refine L.storeArM (q := 0) (row := Tname.row) (vs := [.int .i64 gx5, .int .i64 gx6]) (j := 0) (u1 := (⟨gx5, gx6⟩ : Tname)) h sz41 rfl rfl rfl rfl rfl (all1 rfl (all1 rfl all0)) rfl (fun _ => rfl) (idxA_idx ex28) rfl rfl ?_
      intro l29 el29 h
      refine L.nil (E.blockN (E.thenN (W.region (L.m (V := fun x30 => .int .i64 x30) h rfl (Y.addM rfl rfl) (fun x30 ex30 h => ?_)))))
      refine L.y rfl (Y.move rfl) ?_
      exact L.nil (E.againJ ⟨x30, l29, rfl, rfl, by rw [hg1]; exact h⟩ (Nat.lt_succ_self _) ⟨rfl, rfl, rfl, rfl, rfl, rfl, trivial⟩ (fun _ hw => hw))
    ·
     refine L.nil (E.thenN (W.seq (W.condF rfl ?_)))
     exact W.exit (E.thenX (E.KLX (E.blockX (E.joinJ ⟨gl4, rfl, rfl, h⟩ ⟨rfl, rfl, rfl, trivial⟩ (fun _ hw => hw.sel [0, 1, 3] (by decide) rfl)))))
   ·
    rintro _ _ ⟨gl2, rfl, rfl, h⟩
    rw [m17_see_view_K2] at h
    refine W.seq (W.drawn2 (k := 4) (stC [[3]] [Cls w [] [.obj b11 ((gl2.map Tname.row).flatten) 42, .mq b6 (krow (VA Tname.row) (VA Tname.row) gl1), .obj b1 (((List.replicate 20 ((⟨0, 0⟩ : Tname) : Tname)).map Tname.row).flatten) 42]] (Cls w [] [.obj b11 ((gl2.map Tname.row).flatten) 42, .mq b6 (krow (VA Tname.row) (VA Tname.row) gl1)])) rfl mixed (fun _ hw => hw.drew) (Sc.now (by kernel_rfl) (fun _ hw => hw)) ?_)
    refine V2.y (i := 0) (Nx2.of (Z := Cls w [] [.obj b11 ((gl2.map Tname.row).flatten) 42, .mq b6 (krow (VA Tname.row) (VA Tname.row) gl1)]) [] (by kernel_rfl) rfl (Zc.on (fun _ hw => hw.sel [0, 1] (by decide) rfl) (Zc.fin (fun _ hw => hw)))) rfl rfl rfl (Y.move rfl) ?_
    obtain ⟨_, en21, h⟩ := bind1S h
    obtain ⟨_, en21⟩ := arrN_some en21
    refine V2.y (i := 1) (Nx2.of (Z := Cls w [] [.obj b11 ((gl2.map Tname.row).flatten) 42, .mq b6 (krow (VA Tname.row) (VA Tname.row) gl1)]) [] (by kernel_rfl) rfl (Zc.on (fun _ hw => hw.sel [0, 1] (by decide) rfl) (Zc.fin (fun _ hw => hw)))) rfl rfl rfl (Y.loadArAll (q := 0) (row := Tname.row) (k := 2) ag42 sz42 rfl rfl (fun _ => rfl) (by rw [en21])) ?_
    refine V2.y (i := 2) (Nx2.of (Z := Cls w [] [.obj b11 ((gl2.map Tname.row).flatten) 42, .mq b6 (krow (VA Tname.row) (VA Tname.row) gl1)]) [] (by kernel_rfl) rfl (Zc.on (fun _ hw => hw.sel [0, 1] (by decide) rfl) (Zc.fin (fun _ hw => hw)))) rfl rfl rfl (Y.assign rfl) ?_
    refine V2.eff (i := 3) (by kernel_rfl) rfl ?_
    obtain ⟨_, en22, h⟩ := bind1S h
    obtain ⟨_, en22⟩ := arrN_some en22
    obtain ⟨_, en23, h⟩ := bind1S h
    obtain ⟨_, en23⟩ := arrN_some en23
    refine L.storeArW (i := 2) (row := Tname.row) (k := 2) en22 en23 rfl (fun _ => rfl) (plain_Tname _) sz42 rfl rfl rfl ?_
    refine L.nil (E.toV2 (stC [] [] (Cls w [] [.obj b11 ((gl2.map Tname.row).flatten) 42, .mq b6 (krow (VA Tname.row) (VA Tname.row) gl1)])) 3 (by kernel_rfl) (Sc.past rfl (Sc.stayD (fun _ hw => hw))) (Sc.atD (fun _ hw => hw.sel [0, 1] (by decide) rfl)) ?_)
    refine V2.done (by kernel_rfl) ?_
    refine E.thenN (W.ret ?_)
    obtain ⟨_, en24, h⟩ := bind1S h
    obtain ⟨_, en24⟩ := arrN_some en24
    refine E.retR2 rfl (Rv.tmp rfl) (Rv.cellAr (i := 2) (row := Tname.row) (k := 2) ag42 sz42 rfl rfl (fun _ => rfl) (by rw [en24])) (fun w1 hw => ?_)
    obtain rfl := Option.some.inj h
    exact ⟨_, _, rfl, ⟨_, rfl, rfl⟩, hw.sel [1] (by decide) rfl⟩
set_option maxRecDepth 100000 in
set_option maxHeartbeats 8000000 in
theorem w7_see_Alike (a0 : (List TOp)) (a1 : (List TOp)) (u0 : Value) (u1 : Value) (w : World) (r : (Bool × Int)) (h : m7_see_Alike a0 a1 = some r) (hA0 : At w u0 3 (a0.map TOp.row)) (hA1 : At w u1 3 (a1.map TOp.row)) : Does Try.prog 7 [u0, u1] w fun u m => u = .tuple #[.bool r.1, .int .i64 r.2] ∧ m = [] := by
  rw [m7_see_Alike] at h
  refine body (n := 66) Try.func7 rfl rfl rfl (Cls.refl w) ?_
  refine W.seq (W.region (L.y rfl (Y.assign rfl) ?_))
  refine L.y rfl (Y.assign rfl) ?_
  refine L.nil (E.thenN (W.seqJ (fun gs D => gs = [(0, u0), (1, u1)] ∧ D = Cls w [] [] ∧ m7_see_Alike_K1 a1 a0 = some r) ?_ ?_))
  ·
   refine W.seq (W.region (L.y rfl (Y.move rfl) ?_))
   obtain ⟨x34, e35, h⟩ := bind1S h
   refine L.y rfl (Y.does en10 rfl (fun w' hw => (w10_run_Check a0 u0 w' _ e35 (hA0.cls0 hw)).mono (fun _ _ h => h.1))) ?_
   refine L.y rfl (Y.assign rfl) ?_
   refine L.nil (E.thenN (W.seq (W.region (L.y rfl (Y.move rfl) ?_))))
   refine L.ite h rfl (Y.neq rfl rfl) (fun c36 h => ?_) (fun c36 h => ?_)
   ·
    refine L.nil (E.thenN (W.condT rfl ?_))
    refine W.seq (W.region (L.y rfl (Y.move rfl) ?_))
    refine L.y rfl (Y.assign rfl) ?_
    refine L.y rfl (Y.assign rfl) ?_
    refine L.nil (E.thenN (W.ret (E.KSR (E.ret2 rfl rfl rfl (fun w1 hw => ?_)))))
    obtain rfl := Option.some.inj h
    exact ⟨_, _, rfl, ⟨rfl, rfl⟩, hw⟩
   ·
    refine L.nil (E.thenN (W.condF rfl ?_))
    exact W.skip (E.joinJ ⟨rfl, rfl, h⟩ ⟨rfl, rfl, trivial⟩ (fun _ hw => hw))
  ·
   rintro _ _ ⟨rfl, rfl, h⟩
   rw [m7_see_Alike_K1] at h
   refine W.seqJ (fun gs D => gs = [(0, u0), (1, u1)] ∧ D = Cls w [] [] ∧ m7_see_Alike_K2 a0 a1 = some r) ?_ ?_
   ·
    refine W.seq (W.region (L.y rfl (Y.move rfl) ?_))
    obtain ⟨x31, e32, h⟩ := bind1S h
    refine L.y rfl (Y.does en10 rfl (fun w' hw => (w10_run_Check a1 u1 w' _ e32 (hA1.cls0 hw)).mono (fun _ _ h => h.1))) ?_
    refine L.y rfl (Y.assign rfl) ?_
    refine L.nil (E.thenN (W.seq (W.region (L.y rfl (Y.move rfl) ?_))))
    refine L.ite h rfl (Y.neq rfl rfl) (fun c33 h => ?_) (fun c33 h => ?_)
    ·
     refine L.nil (E.thenN (W.condT rfl ?_))
     refine W.seq (W.region (L.y rfl (Y.move rfl) ?_))
     refine L.y rfl (Y.assign rfl) ?_
     refine L.y rfl (Y.assign rfl) ?_
     refine L.nil (E.thenN (W.ret (E.KSR (E.ret2 rfl rfl rfl (fun w1 hw => ?_)))))
     obtain rfl := Option.some.inj h
     exact ⟨_, _, rfl, ⟨rfl, rfl⟩, hw⟩
    ·
     refine L.nil (E.thenN (W.condF rfl ?_))
     exact W.skip (E.joinJ ⟨rfl, rfl, h⟩ ⟨rfl, rfl, trivial⟩ (fun _ hw => hw))
   ·
    rintro _ _ ⟨rfl, rfl, h⟩
    rw [m7_see_Alike_K2] at h
    refine W.seq (W.region (L.y rfl (Y.move rfl) ?_))
    obtain ⟨x1, x3, e4, h⟩ := bind2S h
    refine L.does rfl en17 rfl (fun w' hw => w17_see_view a0 u0 w' _ e4 (hA0.cls0 hw)) ?_
    rintro _ _ ⟨v2, rfl, rfl⟩
    refine L.y rfl (Y.move rfl) ?_
    refine L.y rfl (Y.extract rfl rfl) ?_
    refine L.y rfl (Y.extract rfl rfl) ?_
    refine L.alloc rfl ze42 ?_
    intro b5
    refine L.to (D := Cls w [] [.obj b5 (((List.replicate 20 ((⟨0, 0⟩ : Tname) : Tname)).map Tname.row).flatten) 42, .mq v2 (krow (VA Tname.row) (VA Tname.row) x1)]) (fun _ hw => by first | exact hw | simpa [I, B, SR] using hw) ?_
    refine L.y rfl (Y.assign rfl) ?_
    obtain ⟨_, en6, h⟩ := bind1S h
    obtain ⟨_, en6⟩ := arrN_some en6
    obtain ⟨_, en7, h⟩ := bind1S h
    obtain ⟨_, en7⟩ := arrN_some en7
    refine L.storeArW (i := 0) (row := Tname.row) (k := 2) en6 en7 rfl (fun _ => rfl) (plain_Tname _) sz42 rfl rfl rfl ?_
    refine L.nil (E.thenN (W.seq (W.region (L.y rfl (Y.move rfl) ?_))))
    obtain ⟨x8, x10, e11, h⟩ := bind2S h
    refine L.does rfl en17 rfl (fun w' hw => w17_see_view a1 u1 w' _ e11 (hA1.cls0 hw)) ?_
    rintro _ _ ⟨v9, rfl, rfl⟩
    refine L.y rfl (Y.move rfl) ?_
    refine L.y rfl (Y.extract rfl rfl) ?_
    refine L.y rfl (Y.extract rfl rfl) ?_
    refine L.alloc rfl ze42 ?_
    intro b12
    refine L.to (D := Cls w [] [.obj b12 (((List.replicate 20 ((⟨0, 0⟩ : Tname) : Tname)).map Tname.row).flatten) 42, .mq v9 (krow (VA Tname.row) (VA Tname.row) x8), .obj b5 ((x3.map Tname.row).flatten) 42, .mq v2 (krow (VA Tname.row) (VA Tname.row) x1)]) (fun _ hw => by first | exact hw | simpa [I, B, SR] using hw) ?_
    refine L.y rfl (Y.assign rfl) ?_
    obtain ⟨_, en13, h⟩ := bind1S h
    obtain ⟨_, en13⟩ := arrN_some en13
    obtain ⟨_, en14, h⟩ := bind1S h
    obtain ⟨_, en14⟩ := arrN_some en14
    refine L.storeArW (i := 0) (row := Tname.row) (k := 2) en13 en14 rfl (fun _ => rfl) (plain_Tname _) sz42 rfl rfl rfl ?_
    refine L.nil (E.thenN (W.seqJ (fun gs D => gs = [(8, .map (some v2)), (10, .map (some v9))] ∧ D = Cls w [] [.mq v9 (krow (VA Tname.row) (VA Tname.row) x8), .mq v2 (krow (VA Tname.row) (VA Tname.row) x1)] ∧ m7_see_Alike_K3 x8 x1 = some r) ?_ ?_))
    ·
     refine W.seq (W.region ?_)
     obtain ⟨_, en25, h⟩ := bind1S h
     obtain ⟨_, en25⟩ := arrN_some en25
     refine L.y rfl (Y.loadArAll (q := 2) (row := Tname.row) (k := 2) ag42 sz42 rfl rfl (fun _ => rfl) (by rw [en25])) ?_
     obtain ⟨_, en26, h⟩ := bind1S h
     obtain ⟨_, en26⟩ := arrN_some en26
     refine L.y rfl (Y.loadArAll (q := 0) (row := Tname.row) (k := 2) ag42 sz42 rfl rfl (fun _ => rfl) (by rw [en26])) ?_
     obtain ⟨_, en27, h⟩ := bind1S h
     obtain ⟨_, en27⟩ := arrN_some en27
     obtain ⟨_, en28, h⟩ := bind1S h
     obtain ⟨_, en28⟩ := arrN_some en28
     refine L.ite h rfl (Y.neqAr (row := Tname.row) egA42 ag42 Try.underlying42 isA42 hrA42 shA42 injA42 en27 en28 rfl rfl) (fun c29 h => ?_) (fun c29 h => ?_)
     ·
      refine L.y rfl (Y.move rfl) ?_
      refine L.pass rfl rfl (by nofun) ?_
      refine L.pass rfl rfl (by nofun) ?_
      refine L.pass rfl rfl (by nofun) ?_
      refine L.pass rfl rfl (by nofun) ?_
      refine L.pass rfl rfl (by nofun) ?_
      refine L.y rfl (Y.pickT rfl rfl) ?_
      refine L.nil (E.thenN (W.condT rfl ?_))
      refine W.seq (W.region (L.y rfl (Y.assign rfl) ?_))
      refine L.y rfl (Y.assign rfl) ?_
      refine L.nil (E.thenN (W.ret (E.KSR (E.ret2 rfl rfl rfl (fun w1 hw => ?_)))))
      obtain rfl := Option.some.inj h
      exact ⟨_, _, rfl, ⟨rfl, rfl⟩, hw.sel [] (by decide) rfl⟩
     ·
      refine L.y rfl (Y.move rfl) ?_
      refine L.take rfl (L.y rfl (Y.move rfl) ?_)
      refine L.take rfl (L.y rfl (Y.lenMpMq (row := Tname.row) (i := 3) (g := (VA Tname.row)) (lm := x1) Try.underlying39 rfl rfl rfl) ?_)
      refine L.take rfl (L.y rfl (Y.move rfl) ?_)
      refine L.take rfl (L.y rfl (Y.lenMpMq (row := Tname.row) (i := 1) (g := (VA Tname.row)) (lm := x8) Try.underlying39 rfl rfl rfl) ?_)
      refine L.take rfl (L.ite h rfl (Y.neq rfl rfl) (fun c30 h => ?_) (fun c30 h => ?_))
      ·
       refine L.y rfl (Y.pickF rfl rfl) ?_
       refine L.nil (E.thenN (W.condT rfl ?_))
       refine W.seq (W.region (L.y rfl (Y.assign rfl) ?_))
       refine L.y rfl (Y.assign rfl) ?_
       refine L.nil (E.thenN (W.ret (E.KSR (E.ret2 rfl rfl rfl (fun w1 hw => ?_)))))
       obtain rfl := Option.some.inj h
       exact ⟨_, _, rfl, ⟨rfl, rfl⟩, hw.sel [] (by decide) rfl⟩
      ·
       refine L.y rfl (Y.pickF rfl rfl) ?_
       refine L.nil (E.thenN (W.condF rfl ?_))
       exact W.skip (E.joinJ ⟨rfl, rfl, h⟩ ⟨rfl, rfl, trivial⟩ (fun _ hw => hw.sel [1, 3] (by decide) rfl))
    ·
     rintro _ _ ⟨rfl, rfl, h⟩
     rw [m7_see_Alike_K3] at h
     refine W.seqJ (fun gs D => gs = [] ∧ D = Cls w [] [] ∧ m7_see_Alike_K4 = some r) ?_ ?_
     ·
      refine W.seq (W.region (L.y rfl (Y.move rfl) ?_))
      refine L.rangeMq (i := 1) (K := (VA Tname.row)) (g := (VA Tname.row)) (lm := x1) rfl Try.underlying39 rfl rfl ?_
      intro b15
      refine L.nil (E.thenN (W.block (W.loopJ (fun m gs D => ∃ (gl1 : (List (Tname × Tname))), gs = [(10, .map (some v9)), (47, pt b15 0)] ∧ D = Cls w [] [.mqi v2 b15 (krow (VA Tname.row) (VA Tname.row) x1) (krow (VA Tname.row) (VA Tname.row) gl1) none, .mq v9 (krow (VA Tname.row) (VA Tname.row) x8)] ∧ m7_see_Alike_L1 x8 m gl1 = some r) ⟨x1, rfl, rfl, h⟩ ⟨rfl, rfl, trivial⟩ (fun _ hw => hw) ?_)))
      rintro m _ _ ⟨gl1, rfl, rfl, h⟩
      rcases m with _ | m
      · rw [m7_see_Alike_L1] at h; cases h
      rw [m7_see_Alike_L1] at h
      generalize hg1 : m7_see_Alike_L1 x8 m = go1 at h
      rw [m7_see_Alike_L1B] at h
      refine W.seq (W.region (L.nextMq (i := 0) (K := (VA Tname.row)) (g := (VA Tname.row)) (lm := x1) (left := gl1) h rfl rfl rfl (fun h => ?_) (fun x16 x17 l18 h => ?_)))
      ·
       refine L.y rfl (Y.extract rfl rfl) ?_
       refine L.nil (E.thenN (W.seq (W.condF rfl ?_)))
       exact W.exit (E.thenX (E.KLX (E.blockX (E.joinJ ⟨rfl, rfl, h⟩ trivial (fun _ hw => hw.sel [] (by decide) rfl)))))
      ·
       refine L.y rfl (Y.extract rfl rfl) ?_
       refine L.nil (E.thenN (W.seq (W.condT rfl ?_)))
       refine W.skip (E.thenN (W.block (W.seq (W.region (L.y rfl (Y.entryMq (i := 0) (K := (VA Tname.row)) (g := (VA Tname.row)) (lm := x1) (k0 := x16) (v0 := x17) rfl rfl) ?_)))))
       refine L.y rfl (Y.extract rfl rfl) ?_
       refine L.y rfl (Y.extract rfl rfl) ?_
       refine L.alloc rfl ze41 ?_
       intro b19
       refine L.alloc rfl ze41 ?_
       intro b20
       refine L.store (i := 1) (vs := [.int .i64 x16.tx_, .int .i64 x16.n_]) sz41 rfl rfl rfl rfl (by simp [Value.oneCell', Value.cells, st, pt, el]) rfl (Nat.le_of_ble_eq_true rfl) ?_
       refine L.store (i := 0) (vs := [.int .i64 x17.tx_, .int .i64 x17.n_]) sz41 rfl rfl rfl rfl (by simp [Value.oneCell', Value.cells, st, pt, el]) rfl (Nat.le_of_ble_eq_true rfl) ?_
       refine L.nil (E.thenN (W.seq (W.region (L.y rfl (Y.move rfl) ?_))))
       refine L.y rfl (Y.loadPW (i := 1) ag41 sz41 rfl rfl rfl) ?_
       refine L.y rfl (Y.lookupOkq (i := 3) (g := (VA Tname.row)) (lm := x8) (z0 := (⟨0, 0⟩ : Tname)) (a := x16) Try.underlying39 kt41 (by kernel_rfl) rfl rfl rfl rfl) ?_
       refine L.y rfl (Y.move rfl) ?_
       refine L.y rfl (Y.extract rfl rfl) ?_
       refine L.iteB h rfl (Y.extract rfl rfl) (fun c21 h => ?_) (fun c21 h => ?_)
       ·
        refine L.alloc rfl ze41 ?_
        intro b22
        refine L.store (i := 0) (vs := [.int .i64 ((kget x8 x16 (⟨0, 0⟩ : Tname)).tx_), .int .i64 ((kget x8 x16 (⟨0, 0⟩ : Tname)).n_)]) sz41 rfl rfl rfl rfl (by simp [Value.oneCell', Value.cells, st, pt, el]) rfl (Nat.le_of_ble_eq_true rfl) ?_
        refine L.y rfl (Y.assign rfl) ?_
        refine L.nil (E.thenN (W.seq (W.region (L.y rfl (Y.move rfl) ?_))))
        refine L.y rfl (Y.not rfl) ?_
        refine L.y rfl (Y.move rfl) ?_
        refine L.take rfl (L.y rfl (Y.loadPW (i := 1) ag41 sz41 rfl rfl rfl) ?_)
        refine L.take rfl (L.y rfl (Y.loadPW (i := 0) ag41 sz41 rfl rfl rfl) ?_)
        refine L.take rfl (L.ite h rfl (Y.neqA (row := Tname.row) (a := x17) (b := (⟨(kget x8 x16 (⟨0, 0⟩ : Tname)).tx_, (kget x8 x16 (⟨0, 0⟩ : Tname)).n_⟩ : Tname)) eg41 ag41 (sh41 _) (sh41 _) (inj41 _ _) rfl rfl) (fun c23 h => ?_) (fun c23 h => ?_))
        ·
         refine L.y rfl (Y.pickF rfl rfl) ?_
         refine L.nil (E.thenN (W.condT rfl ?_))
         refine W.seq (W.region (L.y rfl (Y.assign rfl) ?_))
         refine L.y rfl (Y.assign rfl) ?_
         refine L.nil (E.thenN (W.ret (E.blockR (E.KLR (E.blockR (E.KSR (E.ret2 rfl rfl rfl (fun w1 hw => ?_))))))))
         obtain rfl := Option.some.inj h
         exact ⟨_, _, rfl, ⟨rfl, rfl⟩, hw.sel [] (by decide) rfl⟩
        ·
         refine L.y rfl (Y.pickF rfl rfl) ?_
         refine L.nil (E.thenN (W.condF rfl ?_))
         exact W.skip (E.blockN (E.againJ ⟨l18, rfl, rfl, by rw [hg1]; exact h⟩ (Nat.lt_succ_self _) ⟨rfl, rfl, trivial⟩ (fun _ hw => (hw.miNoneq (i := 3) rfl).sel [3, 4] (by decide) rfl)))
       ·
        refine L.alloc rfl ze41 ?_
        intro b24
        refine L.store (i := 0) (vs := [.int .i64 ((kget x8 x16 (⟨0, 0⟩ : Tname)).tx_), .int .i64 ((kget x8 x16 (⟨0, 0⟩ : Tname)).n_)]) sz41 rfl rfl rfl rfl (by simp [Value.oneCell', Value.cells, st, pt, el]) rfl (Nat.le_of_ble_eq_true rfl) ?_
        refine L.y rfl (Y.assign rfl) ?_
        refine L.nil (E.thenN (W.seq (W.region (L.y rfl (Y.move rfl) ?_))))
        refine L.y rfl (Y.not rfl) ?_
        refine L.y rfl (Y.move rfl) ?_
        refine L.pass rfl rfl (by nofun) ?_
        refine L.pass rfl rfl (by nofun) ?_
        refine L.pass rfl rfl (by nofun) ?_
        refine L.y rfl (Y.pickT rfl rfl) ?_
        refine L.nil (E.thenN (W.condT rfl ?_))
        refine W.seq (W.region (L.y rfl (Y.assign rfl) ?_))
        refine L.y rfl (Y.assign rfl) ?_
        refine L.nil (E.thenN (W.ret (E.blockR (E.KLR (E.blockR (E.KSR (E.ret2 rfl rfl rfl (fun w1 hw => ?_))))))))
        obtain rfl := Option.some.inj h
        exact ⟨_, _, rfl, ⟨rfl, rfl⟩, hw.sel [] (by decide) rfl⟩
     ·
      rintro _ _ ⟨rfl, rfl, h⟩
      rw [m7_see_Alike_K4] at h
      refine W.seq (W.region (L.y rfl (Y.assign rfl) ?_))
      refine L.y rfl (Y.assign rfl) ?_
      refine L.nil (E.thenN (W.ret (E.ret2 rfl rfl rfl (fun w1 hw => ?_))))
      obtain rfl := Option.some.inj h
      exact ⟨_, _, rfl, ⟨rfl, rfl⟩, hw⟩
set_option maxRecDepth 100000 in
set_option maxHeartbeats 8000000 in
theorem w18_quirref_Own (a0 : (List TOp)) (a1 : Int) (u0 : Value) (w : World) (r : (List TOp)) (h : m18_quirref_Own a0 a1 = some r) (hA0 : At w u0 3 (a0.map TOp.row)) : Does Try.prog 18 [u0, .int .i64 a1] w fun u m => ∃ v0, u = v0 ∧ m = [.sl v0 30 3 (r.map TOp.row)] := by
  rw [m18_quirref_Own] at h
  refine body (n := 24) Try.func18 rfl rfl rfl (Cls.refl w) ?_
  refine W.seq (W.region (L.y rfl (Y.assign rfl) ?_))
  refine L.nil (E.thenN (W.seq (W.region (L.y rfl (Y.assign rfl) ?_))))
  refine L.nil (E.thenN (W.seqJ (fun gs D => ∃ (gv1 : Value) (gl2 : (List TOp)), gs = [(5, gv1)] ∧ D = Cls w [] [.sl gv1 30 3 (gl2.map TOp.row)] ∧ m18_quirref_Own_K1 gl2 = some r) ?_ ?_))
  ·
   refine W.seq (W.region (L.y rfl (Y.move rfl) ?_))
   refine L.y rfl (Y.lenM (g := TOp.row) (l := a0) Try.underlying22 rfl (fun w' hw => hA0.cls0 hw)) ?_
   refine L.y rfl (Y.move rfl) ?_
   refine L.nil (E.thenN (W.block (W.nilSl 30 3 ?_)))
   refine W.loopJ (fun m gs D => ∃ (gv3 : Value) (gl4 : (List TOp)) (gx5 : Int), gs = [(1, .int .i64 a1), (5, gv3), (8, u0), (9, .int .i64 (a0.length : Int)), (10, .int .i64 gx5)] ∧ D = Cls w [] [.sl gv3 30 3 (gl4.map TOp.row)] ∧ m18_quirref_Own_L1 a0 a1 m gl4 gx5 = some r) ⟨.slice none 0 0, [], 0, rfl, rfl, h⟩ ⟨rfl, rfl, rfl, rfl, rfl, trivial⟩ (fun _ hw => hw) ?_
   rintro m _ _ ⟨gv3, gl4, gx5, rfl, rfl, h⟩
   rcases m with _ | m
   · rw [m18_quirref_Own_L1] at h; cases h
   rw [m18_quirref_Own_L1] at h
   generalize hg1 : m18_quirref_Own_L1 a0 a1 m = go1 at h
   rw [m18_quirref_Own_L1B] at h
   refine W.seq (W.region (L.ite h rfl (Y.lss rfl rfl) (fun c1 h => ?_) (fun c1 h => ?_)))
   ·
    refine L.nil (E.thenN (W.seq (W.condT rfl ?_)))
    refine W.skip (E.thenN (W.seq (W.block (W.seq (W.region (L.m (V := fun _ => el u0 (gx5.toNat * 3)) h rfl (Y.indexM (g := TOp.row) (l := a0) Try.underlying22 sz30 rfl rfl (fun w' hw => hA0.cls0 hw)) (fun x2 ex2 h => ?_)))))))
    refine L.y rfl (Y.loadEN (r := [.int .i64 x2.Tx, .int .i64 x2.Kind, .int .i64 x2.Item]) ag30 sz30 rfl (fun w' hw => hA0.cls0 hw) (idx_map ex2) rfl) ?_
    refine L.alloc rfl ze30 ?_
    intro b3
    refine L.store (i := 0) (vs := [.int .i64 x2.Tx, .int .i64 x2.Kind, .int .i64 x2.Item]) sz30 rfl rfl rfl rfl (by simp [Value.oneCell', Value.cells, st, pt, el]) rfl (Nat.le_of_ble_eq_true rfl) ?_
    refine L.nil (E.thenN (W.seq (W.region (L.y rfl (Y.fieldP fd30_0 rfl) ?_))))
    refine L.y rfl (Y.loadP (i := 0) ag3 rfl rfl rfl) ?_
    refine L.y rfl (Y.move rfl) ?_
    refine L.ite h rfl (Y.eql rfl rfl) (fun c4 h => ?_) (fun c4 h => ?_)
    ·
     refine L.nil (E.thenN (W.condT rfl ?_))
     refine W.region (L.y rfl (Y.move rfl) ?_)
     refine L.y rfl (Y.loadPW (i := 0) ag30 sz30 rfl rfl rfl) ?_
     refine L.litAgg rfl Try.underlying22 eL30 rfl rfl rfl ?_
     intro b5
     refine L.appM (i := 2) (g := TOp.row) (l := gl4) (more := [x2]) h rfl Try.underlying22 eL30 rfl rfl rfl (fun w hw => As.at_ (hw.get (i := 0) rfl)) (plain_TOp _) rfl ?_
     intro v6 l7 el7 h
     refine L.y rfl (Y.assign rfl) ?_
     refine L.nil (E.blockN (E.thenN (W.region (L.m (V := fun x8 => .int .i64 x8) h rfl (Y.addM rfl rfl) (fun x8 ex8 h => ?_)))))
     refine L.y rfl (Y.move rfl) ?_
     exact L.nil (E.againJ ⟨v6, l7, x8, rfl, rfl, by rw [hg1]; exact h⟩ (Nat.lt_succ_self _) ⟨rfl, rfl, rfl, rfl, rfl, trivial⟩ (fun _ hw => hw.sel [0] (by decide) rfl))
    ·
     refine L.nil (E.thenN (W.condF rfl ?_))
     refine W.skip (E.blockN (E.thenN (W.region (L.m (V := fun x9 => .int .i64 x9) h rfl (Y.addM rfl rfl) (fun x9 ex9 h => ?_)))))
     refine L.y rfl (Y.move rfl) ?_
     exact L.nil (E.againJ ⟨gv3, gl4, x9, rfl, rfl, by rw [hg1]; exact h⟩ (Nat.lt_succ_self _) ⟨rfl, rfl, rfl, rfl, rfl, trivial⟩ (fun _ hw => hw.sel [1] (by decide) rfl))
   ·
    refine L.nil (E.thenN (W.seq (W.condF rfl ?_)))
    exact W.exit (E.thenX (E.KLX (E.blockX (E.joinJ ⟨gv3, gl4, rfl, rfl, h⟩ ⟨rfl, trivial⟩ (fun _ hw => hw)))))
  ·
   rintro _ _ ⟨gv1, gl2, rfl, rfl, h⟩
   rw [m18_quirref_Own_K1] at h
   refine W.seq (W.region (L.y rfl (Y.move rfl) ?_))
   refine L.y rfl (Y.assign rfl) ?_
   refine L.nil (E.thenN (W.ret (E.ret1 rfl rfl (fun w1 hw => ?_))))
   obtain rfl := Option.some.inj h
   exact ⟨_, _, rfl, ⟨_, rfl, rfl⟩, hw⟩
end Go.Proofs.Ytglbgeamiobldaa
