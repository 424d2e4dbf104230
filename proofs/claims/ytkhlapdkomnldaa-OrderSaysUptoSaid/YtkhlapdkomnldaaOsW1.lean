/-
  Walks, printed by a program of mine.
  Conditions: none.
-/
import Derived.Test.YtkhlapdkomnldaaOsM
import Derived.Test.YtkhlapdkomnldaaChecked
import Derived.KernelRfl
import Derived.Test.YtkhlapdkomnldaaSo
import Derived.Test.YtkhlapdkomnldaaOsO
namespace Go.Proofs.Ytkhlapdkomnldaa
open Go.S
set_option linter.unusedVariables false
set_option linter.unusedSimpArgs false
theorem mixed : Try.prog.follows .mixedOrders = true := by kernel_rfl
theorem ag3 : aggB Try.prog 3 false = true := by kernel_rfl
theorem ag4 : aggB Try.prog 4 false = true := by kernel_rfl
theorem ag28 : aggB Try.prog 28 false = true := by kernel_rfl
theorem ag40 : aggB Try.prog 40 true = true := by kernel_rfl
theorem ag44 : aggB Try.prog 44 false = true := by kernel_rfl
theorem ag45 : aggB Try.prog 45 false = true := by kernel_rfl
theorem ag47 : aggB Try.prog 47 true = true := by kernel_rfl
theorem ag49 : aggB Try.prog 49 false = true := by kernel_rfl
theorem ag53 : aggB Try.prog 53 true = true := by kernel_rfl
theorem ag60 : aggB Try.prog 60 true = true := by kernel_rfl
theorem ag99 : aggB Try.prog 99 false = true := by kernel_rfl
theorem ag101 : aggB Try.prog 101 true = true := by kernel_rfl
theorem ag104 : aggB Try.prog 104 true = true := by kernel_rfl
theorem ag164 : aggB Try.prog 164 false = true := by kernel_rfl
theorem el3 : elemB Try.prog 3 1 8 = true := by kernel_rfl
theorem el4 : elemB Try.prog 4 1 1 = true := by kernel_rfl
theorem el28 : elemB Try.prog 28 1 24 = true := by kernel_rfl
theorem el40 : elemB Try.prog 40 2 16 = true := by kernel_rfl
theorem el60 : elemB Try.prog 60 3 24 = true := by kernel_rfl
theorem el164 : elemB Try.prog 164 1 24 = true := by kernel_rfl
theorem en14 : entB Try.prog 14 = true := by kernel_rfl
theorem en18 : entB Try.prog 18 = true := by kernel_rfl
theorem en19 : entB Try.prog 19 = true := by kernel_rfl
theorem en20 : entB Try.prog 20 = true := by kernel_rfl
theorem en21 : entB Try.prog 21 = true := by kernel_rfl
theorem en22 : entB Try.prog 22 = true := by kernel_rfl
theorem en23 : entB Try.prog 23 = true := by kernel_rfl
theorem en24 : entB Try.prog 24 = true := by kernel_rfl
theorem en25 : entB Try.prog 25 = true := by kernel_rfl
theorem en26 : entB Try.prog 26 = true := by kernel_rfl
theorem en42 : entB Try.prog 42 = true := by kernel_rfl
theorem en43 : entB Try.prog 43 = true := by kernel_rfl
theorem en46 : entB Try.prog 46 = true := by kernel_rfl
theorem en47 : entB Try.prog 47 = true := by kernel_rfl
theorem en52 : entB Try.prog 52 = true := by kernel_rfl
theorem en53 : entB Try.prog 53 = true := by kernel_rfl
theorem en54 : entB Try.prog 54 = true := by kernel_rfl
theorem en55 : entB Try.prog 55 = true := by kernel_rfl
theorem en56 : entB Try.prog 56 = true := by kernel_rfl
theorem en57 : entB Try.prog 57 = true := by kernel_rfl
theorem en58 : entB Try.prog 58 = true := by kernel_rfl
theorem en59 : entB Try.prog 59 = true := by kernel_rfl
theorem en60 : entB Try.prog 60 = true := by kernel_rfl
theorem en61 : entB Try.prog 61 = true := by kernel_rfl
theorem en62 : entB Try.prog 62 = true := by kernel_rfl
theorem en63 : entB Try.prog 63 = true := by kernel_rfl
theorem en64 : entB Try.prog 64 = true := by kernel_rfl
theorem en65 : entB Try.prog 65 = true := by kernel_rfl
theorem en66 : entB Try.prog 66 = true := by kernel_rfl
theorem en67 : entB Try.prog 67 = true := by kernel_rfl
theorem en68 : entB Try.prog 68 = true := by kernel_rfl
theorem en69 : entB Try.prog 69 = true := by kernel_rfl
theorem en70 : entB Try.prog 70 = true := by kernel_rfl
theorem en109 : entB Try.prog 109 = true := by kernel_rfl
theorem en110 : entB Try.prog 110 = true := by kernel_rfl
theorem en111 : entB Try.prog 111 = true := by kernel_rfl
theorem en112 : entB Try.prog 112 = true := by kernel_rfl
theorem en114 : entB Try.prog 114 = true := by kernel_rfl
theorem en117 : entB Try.prog 117 = true := by kernel_rfl
theorem en118 : entB Try.prog 118 = true := by kernel_rfl
theorem en130 : entB Try.prog 130 = true := by kernel_rfl
theorem en131 : entB Try.prog 131 = true := by kernel_rfl
theorem fd40_0 : fieldB Try.prog 40 0 0 = true := by kernel_rfl
theorem fd40_1 : fieldB Try.prog 40 1 1 = true := by kernel_rfl
theorem fd47_0 : fieldB Try.prog 47 0 0 = true := by kernel_rfl
theorem fd47_1 : fieldB Try.prog 47 1 1 = true := by kernel_rfl
theorem fd60_0 : fieldB Try.prog 60 0 0 = true := by kernel_rfl
theorem fd60_1 : fieldB Try.prog 60 1 1 = true := by kernel_rfl
theorem fd60_2 : fieldB Try.prog 60 2 2 = true := by kernel_rfl
theorem fd101_0 : fieldB Try.prog 101 0 0 = true := by kernel_rfl
theorem fd101_1 : fieldB Try.prog 101 1 1 = true := by kernel_rfl
theorem fd104_0 : fieldB Try.prog 104 0 0 = true := by kernel_rfl
theorem fd104_1 : fieldB Try.prog 104 1 1 = true := by kernel_rfl
theorem sz3 : szB Try.prog 3 1 = true := by kernel_rfl
theorem sz4 : szB Try.prog 4 1 = true := by kernel_rfl
theorem sz28 : szB Try.prog 28 1 = true := by kernel_rfl
theorem sz40 : szB Try.prog 40 2 = true := by kernel_rfl
theorem sz47 : szB Try.prog 47 2 = true := by kernel_rfl
theorem sz49 : szB Try.prog 49 1 = true := by kernel_rfl
theorem sz53 : szB Try.prog 53 3 = true := by kernel_rfl
theorem sz60 : szB Try.prog 60 3 = true := by kernel_rfl
theorem sz101 : szB Try.prog 101 2 = true := by kernel_rfl
theorem sz104 : szB Try.prog 104 2 = true := by kernel_rfl
theorem sz164 : szB Try.prog 164 1 = true := by kernel_rfl
theorem ze3 : zeroB Try.prog 3 = some [.int .i64 0] := by kernel_rfl
theorem ze4 : zeroB Try.prog 4 = some [.bool false] := by kernel_rfl
theorem ze28 : zeroB Try.prog 28 = some [.slice none 0 0] := by kernel_rfl
theorem ze40 : zeroB Try.prog 40 = some [.int .i64 0, .int .i64 0] := by kernel_rfl
theorem ze49 : zeroB Try.prog 49 = some [.slice none 0 0] := by kernel_rfl
theorem ze53 : zeroB Try.prog 53 = some [.bool false, .bool false, .bool false] := by kernel_rfl
theorem ze60 : zeroB Try.prog 60 = some [.int .i64 0, .int .i64 0, .int .i64 0] := by kernel_rfl
theorem ze101 : zeroB Try.prog 101 = some [.int .i64 0, .slice none 0 0] := by kernel_rfl
theorem ze104 : zeroB Try.prog 104 = some [.int .i64 0, .int .i64 0] := by kernel_rfl
theorem ze116 : zeroB Try.prog 116 = some (List.replicate 3 (.bool false)) := by kernel_rfl
theorem ze164 : zeroB Try.prog 164 = some [.slice none 0 0] := by kernel_rfl
theorem plain_TGot (l : List TGot) : Plain (l.map TGot.row) := by
  intro r hr u hu
  obtain ⟨x, _, rfl⟩ := List.mem_map.1 hr
  simp only [TGot.row, List.mem_cons, List.not_mem_nil, or_false] at hu
  rcases hu with rfl | rfl <;> rfl
theorem plain_TDep (l : List TDep) : Plain (l.map TDep.row) := by
  intro r hr u hu
  obtain ⟨x, _, rfl⟩ := List.mem_map.1 hr
  simp only [TDep.row, List.mem_cons, List.not_mem_nil, or_false] at hu
  rcases hu with rfl | rfl | rfl <;> rfl
theorem plain_TEdge (l : List TEdge) : Plain (l.map TEdge.row) := by
  intro r hr u hu
  obtain ⟨x, _, rfl⟩ := List.mem_map.1 hr
  simp only [TEdge.row, List.mem_cons, List.not_mem_nil, or_false] at hu
  rcases hu with rfl | rfl <;> rfl
theorem plain_TFault (l : List TFault) : Plain (l.map TFault.row) := by
  intro r hr u hu
  obtain ⟨x, _, rfl⟩ := List.mem_map.1 hr
  simp only [TFault.row, List.mem_cons, List.not_mem_nil, or_false] at hu
  rcases hu with rfl | rfl | rfl <;> rfl
theorem eg53 : Try.prog.eqGuardType Try.prog.depth 53 = false := by kernel_rfl
theorem sh53 (x : TFault) : shB Try.prog 5 53 x.row = true := by kernel_rfl
theorem inj53 (x y : TFault) (h : x.row = y.row) : x = y := by
  cases x; cases y
  simpa [TFault.row, st_inj] using h
theorem eg60 : Try.prog.eqGuardType Try.prog.depth 60 = false := by kernel_rfl
theorem sh60 (x : TDep) : shB Try.prog 5 60 x.row = true := by kernel_rfl
theorem inj60 (x y : TDep) (h : x.row = y.row) : x = y := by
  cases x; cases y
  simpa [TDep.row, st_inj] using h
set_option maxRecDepth 100000 in
set_option maxHeartbeats 8000000 in
theorem w56_slices_Index_int (a0 : (List Int)) (a1 : Int) (u0 : Value) (w : World) (r : Int) (h : m56_slices_Index_int a0 a1 = some r) (hA0 : At w u0 1 (a0.map I)) : Does Try.prog 56 [u0, .int .i64 a1] w fun u m => u = .int .i64 r ∧ m = [] := by
  rw [m56_slices_Index_int] at h
  refine body (n := 19) Try.func56 rfl rfl rfl (Cls.refl w) ?_
  refine W.seq (W.region (L.y rfl (Y.assign rfl) ?_))
  refine L.nil (E.thenN (W.seqJ (fun gs D => gs = [] ∧ D = Cls w [] [] ∧ m56_slices_Index_int_K1 = some r) ?_ ?_))
  ·
   refine W.seq (W.region (L.y rfl (Y.move rfl) ?_))
   refine L.y rfl (Y.lenM (g := I) (l := a0) Try.underlying28 rfl (fun w' hw => hA0.cls0 hw)) ?_
   refine L.y rfl (Y.move rfl) ?_
   refine L.nil (E.thenN (W.block (W.loopJ (fun m gs D => ∃ (gx1 : Int), gs = [(0, u0), (1, .int .i64 a1), (7, .int .i64 (a0.length : Int)), (8, .int .i64 gx1)] ∧ D = Cls w [] [] ∧ m56_slices_Index_int_L1 a0 a1 m gx1 = some r) ⟨0, rfl, rfl, h⟩ ⟨rfl, rfl, rfl, rfl, trivial⟩ (fun _ hw => hw) ?_)))
   rintro m _ _ ⟨gx1, rfl, rfl, h⟩
   rcases m with _ | m
   · rw [m56_slices_Index_int_L1] at h; cases h
   rw [m56_slices_Index_int_L1] at h
   generalize hg1 : m56_slices_Index_int_L1 a0 a1 m = go1 at h
   rw [m56_slices_Index_int_L1B] at h
   refine W.seq (W.region (L.ite h rfl (Y.lss rfl rfl) (fun c1 h => ?_) (fun c1 h => ?_)))
   ·
    refine L.nil (E.thenN (W.seq (W.condT rfl ?_)))
    refine W.skip (E.thenN (W.seq (W.block (W.seq (W.region (L.y rfl (Y.move rfl) ?_))))))
    refine L.y rfl (Y.assign rfl) ?_
    refine L.nil (E.thenN (W.seq (W.region (L.y rfl (Y.move rfl) ?_))))
    refine L.y rfl (Y.move rfl) ?_
    refine L.y rfl (Y.move rfl) ?_
    refine L.m (V := fun _ => el u0 (gx1.toNat * 1)) h rfl (Y.indexM (g := I) (l := a0) Try.underlying28 sz3 rfl rfl (fun w' hw => hA0.cls0 hw)) (fun x2 ex2 h => ?_)
    refine L.y rfl (Y.loadE1 (u := .int .i64 x2) ag3 rfl (fun w' hw => hA0.cls0 hw) (idx_map ex2)) ?_
    refine L.ite h rfl (Y.eql rfl rfl) (fun c3 h => ?_) (fun c3 h => ?_)
    ·
     refine L.nil (E.thenN (W.condT rfl ?_))
     refine W.seq (W.region (L.y rfl (Y.move rfl) ?_))
     refine L.y rfl (Y.assign rfl) ?_
     refine L.nil (E.thenN (W.ret (E.blockR (E.thenR (E.KLR (E.blockR (E.KSR (E.ret1 rfl rfl (fun w1 hw => ?_)))))))))
     obtain rfl := Option.some.inj h
     exact ⟨_, _, rfl, ⟨rfl, rfl⟩, hw⟩
    ·
     refine L.nil (E.thenN (W.condF rfl ?_))
     refine W.skip (E.blockN (E.thenN (W.region (L.m (V := fun x4 => .int .i64 x4) h rfl (Y.addM rfl rfl) (fun x4 ex4 h => ?_)))))
     refine L.y rfl (Y.move rfl) ?_
     exact L.nil (E.againJ ⟨x4, rfl, rfl, by rw [hg1]; exact h⟩ (Nat.lt_succ_self _) ⟨rfl, rfl, rfl, rfl, trivial⟩ (fun _ hw => hw))
   ·
    refine L.nil (E.thenN (W.seq (W.condF rfl ?_)))
    exact W.exit (E.thenX (E.KLX (E.blockX (E.joinJ ⟨rfl, rfl, h⟩ trivial (fun _ hw => hw)))))
  ·
   rintro _ _ ⟨rfl, rfl, h⟩
   rw [m56_slices_Index_int_K1] at h
   refine W.seq (W.region (L.y rfl (Y.assign rfl) ?_))
   refine L.nil (E.thenN (W.ret (E.ret1 rfl rfl (fun w1 hw => ?_))))
   obtain rfl := Option.some.inj h
   exact ⟨_, _, rfl, ⟨rfl, rfl⟩, hw⟩
set_option maxRecDepth 100000 in
set_option maxHeartbeats 8000000 in
theorem w55_slices_Contains_int (a0 : (List Int)) (a1 : Int) (u0 : Value) (w : World) (r : Bool) (h : m55_slices_Contains_int a0 a1 = some r) (hA0 : At w u0 1 (a0.map I)) : Does Try.prog 55 [u0, .int .i64 a1] w fun u m => u = .bool r ∧ m = [] := by
  rw [m55_slices_Contains_int] at h
  refine body (n := 9) Try.func55 rfl rfl rfl (Cls.refl w) ?_
  refine W.seq (W.region (L.y rfl (Y.assign rfl) ?_))
  refine L.nil (E.thenN (W.seq (W.region (L.y rfl (Y.move rfl) ?_))))
  refine L.y rfl (Y.move rfl) ?_
  obtain ⟨x1, e2, h⟩ := bind1S h
  refine L.y rfl (Y.does en56 rfl (fun w' hw => (w56_slices_Index_int a0 a1 u0 w' _ e2 (hA0.cls0 hw)).mono (fun _ _ h => h.1))) ?_
  refine L.y rfl (Y.geq rfl rfl) ?_
  refine L.y rfl (Y.assign rfl) ?_
  refine L.nil (E.thenN (W.ret (E.ret1 rfl rfl (fun w1 hw => ?_))))
  obtain rfl := Option.some.inj h
  exact ⟨_, _, rfl, ⟨rfl, rfl⟩, hw⟩
set_option maxRecDepth 100000 in
set_option maxHeartbeats 8000000 in
theorem w18_quirref_StoryErr (a0 : TStory) (u0_0 : Value) (q0_0 : Nat → List Value) (u0_2 : Value) (q0_2 : Nat → List Value) (w : World) (r : Int) (h : m18_quirref_StoryErr a0 = some r) (hA0_0 : At w u0_0 2 (zr TTale.rowv q0_0 a0.Tales)) (hD0_0 : ∀ d ∈ zs TTale.sds q0_0 a0.Tales, At w d.v d.k d.rows) (hA0_2 : At w u0_2 1 (zr svRow q0_2 a0.Versions)) (hD0_2 : ∀ d ∈ zs (svSd 3 1 I) q0_2 a0.Versions, At w d.v d.k d.rows) : Does Try.prog 18 [.agg #[u0_0, u0_2]] w fun u m => u = .int .i64 r ∧ m = [] := by
  rw [m18_quirref_StoryErr] at h
  refine body (n := 114) Try.func18 rfl rfl rfl (Cls.refl w) ?_
  refine W.seq (W.region (L.box rfl rfl ?_))
  intro b1
  refine L.y rfl (Y.assign rfl) ?_
  refine L.nil (E.thenN (W.seqJ (fun gs D => gs = [(1, pt b1 0)] ∧ D = Cls w [] [.obj b1 [u0_0, u0_2] 47] ∧ m18_quirref_StoryErr_K1 a0 = some r) ?_ ?_))
  ·
   refine W.seq (W.region (L.y rfl (Y.fieldP fd47_0 rfl) ?_))
   refine L.y rfl (Y.loadP (i := 0) ag44 rfl rfl rfl) ?_
   refine L.y rfl (Y.lenMZ (row := TTale.rowv) (vs := q0_0) (l := a0.Tales) Try.underlying44 rfl (fun w' hw => hA0_0.cls0 hw)) ?_
   refine L.ite h rfl (Y.gtr rfl rfl) (fun c35 h => ?_) (fun c35 h => ?_)
   ·
    refine L.y rfl (Y.move rfl) ?_
    refine L.pass rfl rfl (by nofun) ?_
    refine L.pass rfl rfl (by nofun) ?_
    refine L.pass rfl rfl (by nofun) ?_
    refine L.pass rfl rfl (by nofun) ?_
    refine L.y rfl (Y.pickT rfl rfl) ?_
    refine L.nil (E.thenN (W.condT rfl ?_))
    refine W.seq (W.region (L.y rfl (Y.assign rfl) ?_))
    refine L.nil (E.thenN (W.ret (E.KSR (E.ret1 rfl rfl (fun w1 hw => ?_)))))
    obtain rfl := Option.some.inj h
    exact ⟨_, _, rfl, ⟨rfl, rfl⟩, hw.sel [] (by decide) rfl⟩
   ·
    refine L.y rfl (Y.move rfl) ?_
    refine L.take rfl (L.y rfl (Y.fieldP fd47_1 rfl) ?_)
    refine L.take rfl (L.y rfl (Y.loadP (i := 0) ag45 rfl rfl rfl) ?_)
    refine L.take rfl (L.y rfl (Y.lenMZ (row := svRow) (vs := q0_2) (l := a0.Versions) Try.underlying45 rfl (fun w' hw => hA0_2.cls0 hw)) ?_)
    refine L.take rfl (L.ite h rfl (Y.gtr rfl rfl) (fun c36 h => ?_) (fun c36 h => ?_))
    ·
     refine L.y rfl (Y.pickF rfl rfl) ?_
     refine L.nil (E.thenN (W.condT rfl ?_))
     refine W.seq (W.region (L.y rfl (Y.assign rfl) ?_))
     refine L.nil (E.thenN (W.ret (E.KSR (E.ret1 rfl rfl (fun w1 hw => ?_)))))
     obtain rfl := Option.some.inj h
     exact ⟨_, _, rfl, ⟨rfl, rfl⟩, hw.sel [] (by decide) rfl⟩
    ·
     refine L.y rfl (Y.pickF rfl rfl) ?_
     refine L.nil (E.thenN (W.condF rfl ?_))
     exact W.skip (E.joinJ ⟨rfl, rfl, h⟩ ⟨rfl, trivial⟩ (fun _ hw => hw))
  ·
   rintro _ _ ⟨rfl, rfl, h⟩
   rw [m18_quirref_StoryErr_K1] at h
   refine W.seq (W.region (L.y rfl (Y.func rfl) ?_))
   refine L.y rfl (Y.assign rfl) ?_
   refine L.nil (E.thenN (W.seq (W.region (L.y rfl (Y.assign rfl) ?_))))
   refine L.nil (E.thenN (W.seqJ (fun gs D => gs = [(1, pt b1 0), (3, .func (.func 52) #[] #[pt b1 0])] ∧ D = Cls w [] [.obj b1 [u0_0, u0_2] 47] ∧ m18_quirref_StoryErr_K2 a0 = some r) ?_ ?_))
   ·
    refine W.seq (W.region (L.y rfl (Y.fieldP fd47_0 rfl) ?_))
    refine L.y rfl (Y.loadP (i := 0) ag44 rfl rfl rfl) ?_
    refine L.y rfl (Y.lenMZ (row := TTale.rowv) (vs := q0_0) (l := a0.Tales) Try.underlying44 rfl (fun w' hw => hA0_0.cls0 hw)) ?_
    refine L.y rfl (Y.move rfl) ?_
    refine L.nil (E.thenN (W.block (W.loopJ (fun m gs D => ∃ (gx7 : Int) (gx8 : Int), gs = [(1, pt b1 0), (3, .func (.func 52) #[] #[pt b1 0]), (4, .int .i64 gx7), (25, u0_0), (26, .int .i64 (a0.Tales.length : Int)), (27, .int .i64 gx8)] ∧ D = Cls w [] [.obj b1 [u0_0, u0_2] 47] ∧ m18_quirref_StoryErr_L4 a0 m gx7 gx8 = some r) ⟨(-1), 0, rfl, rfl, h⟩ ⟨rfl, rfl, rfl, rfl, rfl, rfl, trivial⟩ (fun _ hw => hw) ?_)))
    rintro m _ _ ⟨gx7, gx8, rfl, rfl, h⟩
    rcases m with _ | m
    · rw [m18_quirref_StoryErr_L4] at h; cases h
    rw [m18_quirref_StoryErr_L4] at h
    generalize hg4 : m18_quirref_StoryErr_L4 a0 m = go4 at h
    rw [m18_quirref_StoryErr_L4B] at h
    refine W.seq (W.region (L.ite h rfl (Y.lss rfl rfl) (fun c16 h => ?_) (fun c16 h => ?_)))
    ·
     refine L.nil (E.thenN (W.seq (W.condT rfl ?_)))
     refine W.skip (E.thenN (W.seqJ (fun gs D => ∃ (gx9 : Int), gs = [(1, pt b1 0), (3, .func (.func 52) #[] #[pt b1 0]), (4, .int .i64 gx9), (25, u0_0), (26, .int .i64 (a0.Tales.length : Int)), (27, .int .i64 gx8)] ∧ D = Cls w [] [.obj b1 [u0_0, u0_2] 47] ∧ m18_quirref_StoryErr_K10 gx8 go4 gx9 = some r) ?_ ?_))
     ·
      refine W.block (W.seq (W.region (L.m (V := fun _ => el u0_0 (gx8.toNat * 2)) h rfl (Y.indexMZ (row := TTale.rowv) (vs := q0_0) (l := a0.Tales) Try.underlying44 sz101 rfl rfl (fun w' hw => hA0_0.cls0 hw)) (fun x18 ex18 h => ?_))))
      refine L.y rfl (Y.loadEN (r := [.int .i64 x18.Tx, gv (q0_0 gx8.toNat) 0]) ag101 sz101 rfl (fun w' hw => hA0_0.cls0 hw) (zr_idx (vs := q0_0) ex18) rfl) ?_
      refine L.alloc rfl ze101 ?_
      intro b19
      refine L.storeC (i := 0) sz101 rfl rfl rfl rfl (fun w hw => (all1 rfl (all1 (At.cls0 (zAt (sds := TTale.sds) (vs := q0_0) (j := 0) hD0_0 (fun _ _ => rfl) ex18 rfl) hw).one all0))) rfl (Nat.le_of_ble_eq_true rfl) ?_
      refine L.nil (E.thenN (W.seqJ (fun gs D => gs = [(1, pt b1 0), (3, .func (.func 52) #[] #[pt b1 0]), (4, .int .i64 gx7), (6, pt b19 0), (25, u0_0), (26, .int .i64 (a0.Tales.length : Int)), (27, .int .i64 gx8)] ∧ D = Cls w [] [.obj b19 [.int .i64 x18.Tx, gv (q0_0 gx8.toNat) 0] 101, .obj b1 [u0_0, u0_2] 47] ∧ m18_quirref_StoryErr_K11 x18 gx7 a0 gx8 go4 = some r) ?_ ?_))
      ·
       refine W.seq (W.region (L.y rfl (Y.fieldP fd101_0 rfl) ?_))
       refine L.y rfl (Y.loadP (i := 0) ag3 rfl rfl rfl) ?_
       refine L.ite h rfl (Y.lss rfl rfl) (fun c33 h => ?_) (fun c33 h => ?_)
       ·
        refine L.y rfl (Y.move rfl) ?_
        refine L.pass rfl rfl (by nofun) ?_
        refine L.pass rfl rfl (by nofun) ?_
        refine L.pass rfl rfl (by nofun) ?_
        refine L.y rfl (Y.pickT rfl rfl) ?_
        refine L.nil (E.thenN (W.condT rfl ?_))
        refine W.seq (W.region (L.y rfl (Y.assign rfl) ?_))
        refine L.nil (E.thenN (W.ret (E.KSR (E.blockR (E.KSR (E.KLR (E.blockR (E.KSR (E.ret1 rfl rfl (fun w1 hw => ?_))))))))))
        obtain rfl := Option.some.inj h
        exact ⟨_, _, rfl, ⟨rfl, rfl⟩, hw.sel [] (by decide) rfl⟩
       ·
        refine L.y rfl (Y.move rfl) ?_
        refine L.take rfl (L.y rfl (Y.fieldP fd101_0 rfl) ?_)
        refine L.take rfl (L.y rfl (Y.loadP (i := 0) ag3 rfl rfl rfl) ?_)
        refine L.take rfl (L.ite h rfl (Y.gtr rfl rfl) (fun c34 h => ?_) (fun c34 h => ?_))
        ·
         refine L.y rfl (Y.pickF rfl rfl) ?_
         refine L.nil (E.thenN (W.condT rfl ?_))
         refine W.seq (W.region (L.y rfl (Y.assign rfl) ?_))
         refine L.nil (E.thenN (W.ret (E.KSR (E.blockR (E.KSR (E.KLR (E.blockR (E.KSR (E.ret1 rfl rfl (fun w1 hw => ?_))))))))))
         obtain rfl := Option.some.inj h
         exact ⟨_, _, rfl, ⟨rfl, rfl⟩, hw.sel [] (by decide) rfl⟩
        ·
         refine L.y rfl (Y.pickF rfl rfl) ?_
         refine L.nil (E.thenN (W.condF rfl ?_))
         exact W.skip (E.joinJ ⟨rfl, rfl, h⟩ ⟨rfl, rfl, rfl, rfl, rfl, rfl, rfl, trivial⟩ (fun _ hw => hw))
      ·
       rintro _ _ ⟨rfl, rfl, h⟩
       rw [m18_quirref_StoryErr_K11] at h
       refine W.seqJ (fun gs D => gs = [(1, pt b1 0), (3, .func (.func 52) #[] #[pt b1 0]), (6, pt b19 0), (25, u0_0), (26, .int .i64 (a0.Tales.length : Int)), (27, .int .i64 gx8)] ∧ D = Cls w [] [.obj b19 [.int .i64 x18.Tx, gv (q0_0 gx8.toNat) 0] 101, .obj b1 [u0_0, u0_2] 47] ∧ m18_quirref_StoryErr_K12 x18 a0 gx8 go4 = some r) ?_ ?_
       ·
        refine W.seq (W.region (L.y rfl (Y.fieldP fd101_0 rfl) ?_))
        refine L.y rfl (Y.loadP (i := 0) ag3 rfl rfl rfl) ?_
        refine L.y rfl (Y.move rfl) ?_
        refine L.ite h rfl (Y.leq rfl rfl) (fun c32 h => ?_) (fun c32 h => ?_)
        ·
         refine L.nil (E.thenN (W.condT rfl ?_))
         refine W.seq (W.region (L.y rfl (Y.assign rfl) ?_))
         refine L.nil (E.thenN (W.ret (E.KSR (E.blockR (E.KSR (E.KLR (E.blockR (E.KSR (E.ret1 rfl rfl (fun w1 hw => ?_))))))))))
         obtain rfl := Option.some.inj h
         exact ⟨_, _, rfl, ⟨rfl, rfl⟩, hw.sel [] (by decide) rfl⟩
        ·
         refine L.nil (E.thenN (W.condF rfl ?_))
         exact W.skip (E.joinJ ⟨rfl, rfl, h⟩ ⟨rfl, rfl, rfl, rfl, rfl, rfl, trivial⟩ (fun _ hw => hw))
       ·
        rintro _ _ ⟨rfl, rfl, h⟩
        rw [m18_quirref_StoryErr_K12] at h
        refine W.seq (W.region (L.y rfl (Y.fieldP fd101_0 rfl) ?_))
        refine L.y rfl (Y.loadP (i := 0) ag3 rfl rfl rfl) ?_
        refine L.y rfl (Y.assign rfl) ?_
        refine L.nil (E.thenN (W.seq (W.region (L.y rfl (Y.fieldP fd101_1 rfl) ?_))))
        refine L.y rfl (Y.loadP (i := 0) ag99 rfl rfl rfl) ?_
        refine L.y rfl (Y.lenM (g := TGot.row) (l := x18.Reads) Try.underlying99 rfl (fun w' hw => (zAt (sds := TTale.sds) (vs := q0_0) (j := 0) hD0_0 (fun _ _ => rfl) ex18 rfl).cls0 hw)) ?_
        refine L.y rfl (Y.move rfl) ?_
        refine L.nil (E.thenN (W.block (W.loopJ (fun m gs D => ∃ (gx10 : Int), gs = [(1, pt b1 0), (3, .func (.func 52) #[] #[pt b1 0]), (4, .int .i64 x18.Tx), (6, pt b19 0), (25, u0_0), (26, .int .i64 (a0.Tales.length : Int)), (27, .int .i64 gx8), (46, gv (q0_0 gx8.toNat) 0), (47, .int .i64 (x18.Reads.length : Int)), (48, .int .i64 gx10)] ∧ D = Cls w [] [.obj b19 [.int .i64 x18.Tx, gv (q0_0 gx8.toNat) 0] 101, .obj b1 [u0_0, u0_2] 47] ∧ m18_quirref_StoryErr_L5 x18 a0 gx8 go4 m gx10 = some r) ⟨0, rfl, rfl, h⟩ ⟨rfl, rfl, rfl, rfl, rfl, rfl, rfl, rfl, rfl, rfl, trivial⟩ (fun _ hw => hw) ?_)))
        rintro m _ _ ⟨gx10, rfl, rfl, h⟩
        rcases m with _ | m
        · rw [m18_quirref_StoryErr_L5] at h; cases h
        rw [m18_quirref_StoryErr_L5] at h
        generalize hg5 : m18_quirref_StoryErr_L5 x18 a0 gx8 go4 m = go5 at h
        rw [m18_quirref_StoryErr_L5B] at h
        refine W.seq (W.region (L.ite h rfl (Y.lss rfl rfl) (fun c20 h => ?_) (fun c20 h => ?_)))
        ·
         refine L.nil (E.thenN (W.seq (W.condT rfl ?_)))
         refine W.skip (E.thenN (W.seq (W.block (W.seq (W.region (L.m (V := fun _ => el (gv (q0_0 gx8.toNat) 0) (gx10.toNat * 2)) h rfl (Y.indexM (g := TGot.row) (l := x18.Reads) Try.underlying99 sz104 rfl rfl (fun w' hw => (zAt (sds := TTale.sds) (vs := q0_0) (j := 0) hD0_0 (fun _ _ => rfl) ex18 rfl).cls0 hw)) (fun x21 ex21 h => ?_)))))))
         refine L.y rfl (Y.loadEN (r := [.int .i64 x21.Item, .int .i64 x21.From]) ag104 sz104 rfl (fun w' hw => (zAt (sds := TTale.sds) (vs := q0_0) (j := 0) hD0_0 (fun _ _ => rfl) ex18 rfl).cls0 hw) (idx_map ex21) rfl) ?_
         refine L.alloc rfl ze104 ?_
         intro b22
         refine L.store (i := 0) sz104 rfl rfl rfl rfl (by simp [Value.oneCell', Value.cells, st]) rfl (Nat.le_of_ble_eq_true rfl) ?_
         refine L.nil (E.thenN (W.seqJ (fun gs D => gs = [(1, pt b1 0), (3, .func (.func 52) #[] #[pt b1 0]), (4, .int .i64 x18.Tx), (6, pt b19 0), (8, pt b22 0), (25, u0_0), (26, .int .i64 (a0.Tales.length : Int)), (27, .int .i64 gx8), (46, gv (q0_0 gx8.toNat) 0), (47, .int .i64 (x18.Reads.length : Int)), (48, .int .i64 gx10)] ∧ D = Cls w [] [.obj b22 [.int .i64 x21.Item, .int .i64 x21.From] 104, .obj b19 [.int .i64 x18.Tx, gv (q0_0 gx8.toNat) 0] 101, .obj b1 [u0_0, u0_2] 47] ∧ m18_quirref_StoryErr_K13 x21 a0 gx10 go5 = some r) ?_ ?_))
         ·
          refine W.seq (W.region (L.cutJ 11 (fun gs D => ∃ (gb11 : Bool), gs = [(1, pt b1 0), (3, .func (.func 52) #[] #[pt b1 0]), (4, .int .i64 x18.Tx), (6, pt b19 0), (8, pt b22 0), (25, u0_0), (26, .int .i64 (a0.Tales.length : Int)), (27, .int .i64 gx8), (46, gv (q0_0 gx8.toNat) 0), (47, .int .i64 (x18.Reads.length : Int)), (48, .int .i64 gx10), (62, .bool gb11)] ∧ D = Cls w [] [.obj b22 [.int .i64 x21.Item, .int .i64 x21.From] 104, .obj b19 [.int .i64 x18.Tx, gv (q0_0 gx8.toNat) 0] 101, .obj b1 [u0_0, u0_2] 47] ∧ m18_quirref_StoryErr_K14 x21 x18 a0 gx10 go5 gb11 = some r) ?_ ?_))
          ·
           refine L.y rfl (Y.fieldP fd104_0 rfl) ?_
           refine L.y rfl (Y.loadP (i := 0) ag3 rfl rfl rfl) ?_
           refine L.ite h rfl (Y.lss rfl rfl) (fun c30 h => ?_) (fun c30 h => ?_)
           ·
            refine L.y rfl (Y.move rfl) ?_
            refine L.pass rfl rfl (by nofun) ?_
            refine L.pass rfl rfl (by nofun) ?_
            refine L.pass rfl rfl (by nofun) ?_
            refine L.pass rfl rfl (by nofun) ?_
            refine L.pass rfl rfl (by nofun) ?_
            refine L.pass rfl rfl (by nofun) ?_
            refine L.y rfl (Y.pickT rfl rfl) ?_
            exact L.nil (E.joinJ ⟨true, rfl, rfl, h⟩ ⟨rfl, rfl, rfl, rfl, rfl, rfl, rfl, rfl, rfl, rfl, rfl, rfl, trivial⟩ (fun _ hw => hw))
           ·
            refine L.y rfl (Y.move rfl) ?_
            refine L.take rfl (L.y rfl (Y.fieldP fd104_0 rfl) ?_)
            refine L.take rfl (L.y rfl (Y.loadP (i := 0) ag3 rfl rfl rfl) ?_)
            refine L.take rfl (L.y rfl (Y.fieldP fd47_1 rfl) ?_)
            refine L.take rfl (L.y rfl (Y.loadP (i := 2) ag45 rfl rfl rfl) ?_)
            refine L.take rfl (L.y rfl (Y.lenMZ (row := svRow) (vs := q0_2) (l := a0.Versions) Try.underlying45 rfl (fun w' hw => hA0_2.cls0 hw)) ?_)
            refine L.take rfl (L.ite h rfl (Y.geq rfl rfl) (fun c31 h => ?_) (fun c31 h => ?_))
            ·
             refine L.y rfl (Y.pickF rfl rfl) ?_
             exact L.nil (E.joinJ ⟨true, rfl, rfl, h⟩ ⟨rfl, rfl, rfl, rfl, rfl, rfl, rfl, rfl, rfl, rfl, rfl, rfl, trivial⟩ (fun _ hw => hw))
            ·
             refine L.y rfl (Y.pickF rfl rfl) ?_
             exact L.nil (E.joinJ ⟨false, rfl, rfl, h⟩ ⟨rfl, rfl, rfl, rfl, rfl, rfl, rfl, rfl, rfl, rfl, rfl, rfl, trivial⟩ (fun _ hw => hw))
          ·
           rintro _ _ ⟨gb11, rfl, rfl, h⟩
           rw [m18_quirref_StoryErr_K14] at h
           rcases gb11 with _ | _
           ·
            replace h := iteF h
            refine L.y rfl (Y.move rfl) ?_
            refine L.take rfl (L.y rfl (Y.fieldP fd104_1 rfl) ?_)
            refine L.take rfl (L.y rfl (Y.loadP (i := 0) ag3 rfl rfl rfl) ?_)
            refine L.take rfl (L.y rfl (Y.fieldP fd101_0 rfl) ?_)
            refine L.take rfl (L.y rfl (Y.loadP (i := 1) ag3 rfl rfl rfl) ?_)
            refine L.take rfl (L.ite h rfl (Y.eql rfl rfl) (fun c29 h => ?_) (fun c29 h => ?_))
            ·
             refine L.y rfl (Y.pickF rfl rfl) ?_
             refine L.nil (E.thenN (W.condT rfl ?_))
             refine W.seq (W.region (L.y rfl (Y.assign rfl) ?_))
             refine L.nil (E.thenN (W.ret (E.KSR (E.blockR (E.thenR (E.KLR (E.blockR (E.blockR (E.KSR (E.KLR (E.blockR (E.KSR (E.ret1 rfl rfl (fun w1 hw => ?_))))))))))))))
             obtain rfl := Option.some.inj h
             exact ⟨_, _, rfl, ⟨rfl, rfl⟩, hw.sel [] (by decide) rfl⟩
            ·
             refine L.y rfl (Y.pickF rfl rfl) ?_
             refine L.nil (E.thenN (W.condF rfl ?_))
             exact W.skip (E.joinJ ⟨rfl, rfl, h⟩ ⟨rfl, rfl, rfl, rfl, rfl, rfl, rfl, rfl, rfl, rfl, rfl, trivial⟩ (fun _ hw => hw))
           ·
            replace h := iteT h
            refine L.y rfl (Y.move rfl) ?_
            refine L.pass rfl rfl (by nofun) ?_
            refine L.pass rfl rfl (by nofun) ?_
            refine L.pass rfl rfl (by nofun) ?_
            refine L.pass rfl rfl (by nofun) ?_
            refine L.pass rfl rfl (by nofun) ?_
            refine L.y rfl (Y.pickT rfl rfl) ?_
            refine L.nil (E.thenN (W.condT rfl ?_))
            refine W.seq (W.region (L.y rfl (Y.assign rfl) ?_))
            refine L.nil (E.thenN (W.ret (E.KSR (E.blockR (E.thenR (E.KLR (E.blockR (E.blockR (E.KSR (E.KLR (E.blockR (E.KSR (E.ret1 rfl rfl (fun w1 hw => ?_))))))))))))))
            obtain rfl := Option.some.inj h
            exact ⟨_, _, rfl, ⟨rfl, rfl⟩, hw.sel [] (by decide) rfl⟩
         ·
          rintro _ _ ⟨rfl, rfl, h⟩
          rw [m18_quirref_StoryErr_K13] at h
          refine W.seq (W.quietC mixed (by kernel_rfl) (fun _ hw => hw.drew) (fun hC => ?_))
          refine U.y rfl (Y.fieldP fd104_1 rfl) ?_
          refine U.y rfl (Y.loadP (i := 0) ag3 rfl rfl rfl) ?_
          refine U.ite h rfl (Y.neq rfl rfl) (fun c23 h => ?_) (fun c23 h => ?_)
          ·
           refine U.y rfl (Y.move rfl) ?_
           refine U.take rfl (U.y rfl (Y.fieldP fd47_1 rfl) ?_)
           refine U.take rfl (U.y rfl (Y.loadP (i := 2) ag45 rfl rfl rfl) ?_)
           refine U.take rfl (U.y rfl (Y.fieldP fd104_0 rfl) ?_)
           refine U.take rfl (U.y rfl (Y.loadP (i := 0) ag3 rfl rfl rfl) ?_)
           refine U.take rfl (U.m (V := fun _ => el u0_2 (x21.Item.toNat * 1)) h rfl (Y.indexMZ (row := svRow) (vs := q0_2) (l := a0.Versions) Try.underlying45 sz28 rfl rfl (fun w' hw => hA0_2.cls0 hw)) (fun x24 ex24 h => ?_))
           refine U.take rfl (U.y rfl (Y.loadE1 (u := gv (q0_2 x21.Item.toNat) 0) ag28 rfl (fun w' hw => hA0_2.cls0 hw) (zr_idx (vs := q0_2) ex24)) ?_)
           refine U.take rfl (U.y rfl (Y.fieldP fd104_1 rfl) ?_)
           refine U.take rfl (U.y rfl (Y.loadP (i := 0) ag3 rfl rfl rfl) ?_)
           refine U.take rfl ?_
           obtain ⟨b25, e26, h⟩ := bind1S h
           refine U.y rfl (Y.does en55 rfl (fun w' hw => (w55_slices_Contains_int x24 x21.From (gv (q0_2 x21.Item.toNat) 0) w' _ e26 ((zAt (sds := (svSd 3 1 I)) (vs := q0_2) (j := 0) hD0_2 (fun _ _ => rfl) ex24 rfl).cls0 hw)).mono (fun _ _ h => h.1))) ?_
           rcases b25 with _ | _
           ·
            replace h := iteF h
            refine U.take rfl (U.y rfl (Y.not rfl) ?_)
            refine U.y rfl (Y.pickT rfl rfl) ?_
            refine U.nil (E.thenN (W.condT rfl ?_))
            refine W.seq (W.region (L.y rfl (Y.assign rfl) ?_))
            refine L.nil (E.thenN (W.ret (E.blockR (E.thenR (E.KLR (E.blockR (E.blockR (E.KSR (E.KLR (E.blockR (E.KSR (E.ret1 rfl rfl (fun w1 hw => ?_)))))))))))))
            obtain rfl := Option.some.inj h
            exact ⟨_, _, rfl, ⟨rfl, rfl⟩, hw.sel [] (by decide) rfl⟩
           ·
            replace h := iteT h
            refine U.take rfl (U.y rfl (Y.not rfl) ?_)
            refine U.y rfl (Y.pickT rfl rfl) ?_
            refine U.nil (E.thenN (W.condF rfl ?_))
            refine W.skip (E.blockN (E.thenN (W.region (L.m (V := fun x27 => .int .i64 x27) h rfl (Y.addM rfl rfl) (fun x27 ex27 h => ?_)))))
            refine L.y rfl (Y.move rfl) ?_
            exact L.nil (E.againJ ⟨x27, rfl, rfl, by rw [hg5]; exact h⟩ (Nat.lt_succ_self _) ⟨rfl, rfl, rfl, rfl, rfl, rfl, rfl, rfl, rfl, rfl, trivial⟩ (fun _ hw => hw.sel [1, 2] (by decide) rfl))
          ·
           refine U.y rfl (Y.move rfl) ?_
           refine U.pass rfl rfl (by nofun) ?_
           refine U.pass rfl rfl (by nofun) ?_
           refine U.pass rfl rfl (by nofun) ?_
           refine U.pass rfl rfl (by nofun) ?_
           refine U.pass rfl rfl (by nofun) ?_
           refine U.pass rfl rfl (by nofun) ?_
           refine U.pass rfl rfl (by nofun) ?_
           refine U.pass rfl rfl (by nofun) ?_
           refine U.pass rfl rfl (by nofun) ?_
           refine U.pass rfl rfl (by nofun) ?_
           refine U.y rfl (Y.pickF rfl rfl) ?_
           refine U.nil (E.thenN (W.condF rfl ?_))
           refine W.skip (E.blockN (E.thenN (W.region (L.m (V := fun x28 => .int .i64 x28) h rfl (Y.addM rfl rfl) (fun x28 ex28 h => ?_)))))
           refine L.y rfl (Y.move rfl) ?_
           exact L.nil (E.againJ ⟨x28, rfl, rfl, by rw [hg5]; exact h⟩ (Nat.lt_succ_self _) ⟨rfl, rfl, rfl, rfl, rfl, rfl, rfl, rfl, rfl, rfl, trivial⟩ (fun _ hw => hw.sel [1, 2] (by decide) rfl))
        ·
         refine L.nil (E.thenN (W.seq (W.condF rfl ?_)))
         exact W.exit (E.thenX (E.KLX (E.blockX (E.blockN (E.joinJ ⟨x18.Tx, rfl, rfl, h⟩ ⟨rfl, rfl, rfl, rfl, rfl, rfl, trivial⟩ (fun _ hw => hw.sel [1] (by decide) rfl))))))
     ·
      rintro _ _ ⟨gx9, rfl, rfl, h⟩
      rw [m18_quirref_StoryErr_K10] at h
      refine W.region (L.m (V := fun x17 => .int .i64 x17) h rfl (Y.addM rfl rfl) (fun x17 ex17 h => ?_))
      refine L.y rfl (Y.move rfl) ?_
      exact L.nil (E.againJ ⟨gx9, x17, rfl, rfl, by rw [hg4]; exact h⟩ (Nat.lt_succ_self _) ⟨rfl, rfl, rfl, rfl, rfl, rfl, trivial⟩ (fun _ hw => hw))
    ·
     refine L.nil (E.thenN (W.seq (W.condF rfl ?_)))
     exact W.exit (E.thenX (E.KLX (E.blockX (E.joinJ ⟨rfl, rfl, h⟩ ⟨rfl, rfl, trivial⟩ (fun _ hw => hw)))))
   ·
    rintro _ _ ⟨rfl, rfl, h⟩
    rw [m18_quirref_StoryErr_K2] at h
    refine W.seqJ (fun gs D => gs = [] ∧ D = Cls w [] [] ∧ m18_quirref_StoryErr_K3 = some r) ?_ ?_
    ·
     refine W.seq (W.region (L.y rfl (Y.fieldP fd47_1 rfl) ?_))
     refine L.y rfl (Y.loadP (i := 0) ag45 rfl rfl rfl) ?_
     refine L.y rfl (Y.lenMZ (row := svRow) (vs := q0_2) (l := a0.Versions) Try.underlying45 rfl (fun w' hw => hA0_2.cls0 hw)) ?_
     refine L.y rfl (Y.move rfl) ?_
     refine L.nil (E.thenN (W.block (W.loopJ (fun m gs D => ∃ (gx1 : Int), gs = [(3, .func (.func 52) #[] #[pt b1 0]), (88, u0_2), (89, .int .i64 (a0.Versions.length : Int)), (90, .int .i64 gx1)] ∧ D = Cls w [] [.obj b1 [u0_0, u0_2] 47] ∧ m18_quirref_StoryErr_L1 a0 m gx1 = some r) ⟨0, rfl, rfl, h⟩ ⟨rfl, rfl, rfl, rfl, trivial⟩ (fun _ hw => hw) ?_)))
     rintro m _ _ ⟨gx1, rfl, rfl, h⟩
     rcases m with _ | m
     · rw [m18_quirref_StoryErr_L1] at h; cases h
     rw [m18_quirref_StoryErr_L1] at h
     generalize hg1 : m18_quirref_StoryErr_L1 a0 m = go1 at h
     rw [m18_quirref_StoryErr_L1B] at h
     refine W.seq (W.region (L.ite h rfl (Y.lss rfl rfl) (fun c2 h => ?_) (fun c2 h => ?_)))
     ·
      refine L.nil (E.thenN (W.seq (W.condT rfl ?_)))
      refine W.skip (E.thenN (W.seqJ (fun gs D => gs = [(3, .func (.func 52) #[] #[pt b1 0]), (88, u0_2), (89, .int .i64 (a0.Versions.length : Int)), (90, .int .i64 gx1)] ∧ D = Cls w [] [.obj b1 [u0_0, u0_2] 47] ∧ m18_quirref_StoryErr_K4 gx1 go1 = some r) ?_ ?_))
      ·
       refine W.block (W.seq (W.region (L.m (V := fun _ => el u0_2 (gx1.toNat * 1)) h rfl (Y.indexMZ (row := svRow) (vs := q0_2) (l := a0.Versions) Try.underlying45 sz28 rfl rfl (fun w' hw => hA0_2.cls0 hw)) (fun x4 ex4 h => ?_))))
       refine L.y rfl (Y.loadE1 (u := gv (q0_2 gx1.toNat) 0) ag28 rfl (fun w' hw => hA0_2.cls0 hw) (zr_idx (vs := q0_2) ex4)) ?_
       refine L.y rfl (Y.assign rfl) ?_
       refine L.nil (E.thenN (W.seq (W.region (L.y rfl (Y.move rfl) ?_))))
       refine L.y rfl (Y.lenM (g := I) (l := x4) Try.underlying28 rfl (fun w' hw => (zAt (sds := (svSd 3 1 I)) (vs := q0_2) (j := 0) hD0_2 (fun _ _ => rfl) ex4 rfl).cls0 hw)) ?_
       refine L.y rfl (Y.move rfl) ?_
       refine L.nil (E.thenN (W.block (W.loopJ (fun m gs D => ∃ (gx2 : Int), gs = [(3, .func (.func 52) #[] #[pt b1 0]), (10, gv (q0_2 gx1.toNat) 0), (88, u0_2), (89, .int .i64 (a0.Versions.length : Int)), (90, .int .i64 gx1), (94, gv (q0_2 gx1.toNat) 0), (95, .int .i64 (x4.length : Int)), (96, .int .i64 gx2)] ∧ D = Cls w [] [.obj b1 [u0_0, u0_2] 47] ∧ m18_quirref_StoryErr_L2 x4 a0 gx1 go1 m gx2 = some r) ⟨0, rfl, rfl, h⟩ ⟨rfl, rfl, rfl, rfl, rfl, rfl, rfl, rfl, trivial⟩ (fun _ hw => hw) ?_)))
       rintro m _ _ ⟨gx2, rfl, rfl, h⟩
       rcases m with _ | m
       · rw [m18_quirref_StoryErr_L2] at h; cases h
       rw [m18_quirref_StoryErr_L2] at h
       generalize hg2 : m18_quirref_StoryErr_L2 x4 a0 gx1 go1 m = go2 at h
       rw [m18_quirref_StoryErr_L2B] at h
       refine W.seq (W.region (L.ite h rfl (Y.lss rfl rfl) (fun c5 h => ?_) (fun c5 h => ?_)))
       ·
        refine L.nil (E.thenN (W.seq (W.condT rfl ?_)))
        refine W.skip (E.thenN (W.seq (W.block (W.seq (W.region (L.y rfl (Y.move rfl) ?_))))))
        refine L.m (V := fun _ => el (gv (q0_2 gx1.toNat) 0) (gx2.toNat * 1)) h rfl (Y.indexM (g := I) (l := x4) Try.underlying28 sz3 rfl rfl (fun w' hw => (zAt (sds := (svSd 3 1 I)) (vs := q0_2) (j := 0) hD0_2 (fun _ _ => rfl) ex4 rfl).cls0 hw)) (fun x6 ex6 h => ?_)
        refine L.y rfl (Y.loadE1 (u := .int .i64 x6) ag3 rfl (fun w' hw => (zAt (sds := (svSd 3 1 I)) (vs := q0_2) (j := 0) hD0_2 (fun _ _ => rfl) ex4 rfl).cls0 hw) (idx_map ex6)) ?_
        refine L.y rfl (Y.assign rfl) ?_
        refine L.y rfl (Y.assign rfl) ?_
        refine L.nil (E.thenN (W.seq (W.region (L.y rfl (Y.move rfl) ?_))))
        refine L.y rfl (Y.move rfl) ?_
        refine L.callVJ (fun v D => ∃ (gb3 : Bool), v = .bool gb3 ∧ D = Cls w [] [.obj b1 [u0_0, u0_2] 47] ∧ m18_quirref_StoryErr_K5 x4 x6 gx2 go2 gb3 = some r) rfl en52 rfl rfl Try.func52 rfl rfl rfl ?_ ?_
        ·
         refine W.seq (W.region (L.box rfl rfl ?_))
         intro b11
         refine L.y rfl (Y.assign rfl) ?_
         refine L.nil (E.thenN (W.seq (W.region (L.y rfl (Y.fieldP fd47_0 rfl) ?_))))
         refine L.y rfl (Y.loadP (i := 1) ag44 rfl rfl rfl) ?_
         refine L.y rfl (Y.func rfl) ?_
         refine L.callJ (fun v D => ∃ (gb4 : Bool), v = .bool gb4 ∧ D = Cls w [] [.obj b1 [u0_0, u0_2] 47] ∧ m18_quirref_StoryErr_K6 x4 x6 gx2 go2 gb4 = some r) rfl en53 rfl Try.func53 rfl rfl rfl ?_ ?_
         ·
          refine W.seq (W.region (L.y rfl (Y.assign rfl) ?_))
          refine L.nil (E.thenN (W.seq (W.region (L.y rfl (Y.move rfl) ?_))))
          refine L.y rfl (Y.move rfl) ?_
          refine L.callJ (fun v D => ∃ (gx5 : Int), v = .int .i64 gx5 ∧ D = Cls w [] [.obj b1 [u0_0, u0_2] 47] ∧ m18_quirref_StoryErr_K7 x4 x6 gx2 go2 gx5 = some r) rfl en114 rfl Try.func114 rfl rfl rfl ?_ ?_
          ·
           refine W.seq (W.region (L.y rfl (Y.assign rfl) ?_))
           refine L.nil (E.thenN (W.seqJ (fun gs D => gs = [] ∧ D = Cls w [] [.obj b1 [u0_0, u0_2] 47] ∧ m18_quirref_StoryErr_K8 x4 x6 gx2 go2 = some r) ?_ ?_))
           ·
            refine W.seq (W.region (L.y rfl (Y.move rfl) ?_))
            refine L.y rfl (Y.lenMZ (row := TTale.rowv) (vs := q0_0) (l := a0.Tales) Try.underlying44 rfl (fun w' hw => hA0_0.cls0 hw)) ?_
            refine L.y rfl (Y.move rfl) ?_
            refine L.nil (E.thenN (W.block (W.loopJ (fun m gs D => ∃ (gx6 : Int), gs = [(0, u0_0), (1, .func (.func 54) #[] #[pt b11 0]), (7, .int .i64 (a0.Tales.length : Int)), (8, .int .i64 gx6)] ∧ D = Cls w [] [.obj b11 [.int .i64 x6] 3, .obj b1 [u0_0, u0_2] 47] ∧ m18_quirref_StoryErr_L3 a0 x6 x4 gx2 go2 m gx6 = some r) ⟨0, rfl, rfl, h⟩ ⟨rfl, rfl, rfl, rfl, trivial⟩ (fun _ hw => hw) ?_)))
            rintro m _ _ ⟨gx6, rfl, rfl, h⟩
            rcases m with _ | m
            · rw [m18_quirref_StoryErr_L3] at h; cases h
            rw [m18_quirref_StoryErr_L3] at h
            generalize hg3 : m18_quirref_StoryErr_L3 a0 x6 x4 gx2 go2 m = go3 at h
            rw [m18_quirref_StoryErr_L3B] at h
            refine W.seq (W.region (L.ite h rfl (Y.lss rfl rfl) (fun c12 h => ?_) (fun c12 h => ?_)))
            ·
             refine L.nil (E.thenN (W.seq (W.condT rfl ?_)))
             refine W.skip (E.thenN (W.seq (W.block (W.seq (W.region (L.y rfl (Y.move rfl) ?_))))))
             refine L.y rfl (Y.assign rfl) ?_
             refine L.nil (E.thenN (W.seq (W.region (L.y rfl (Y.move rfl) ?_))))
             refine L.y rfl (Y.move rfl) ?_
             refine L.y rfl (Y.move rfl) ?_
             refine L.m (V := fun _ => el u0_0 (gx6.toNat * 2)) h rfl (Y.indexMZ (row := TTale.rowv) (vs := q0_0) (l := a0.Tales) Try.underlying44 sz101 rfl rfl (fun w' hw => hA0_0.cls0 hw)) (fun x13 ex13 h => ?_)
             refine L.y rfl (Y.loadEN (r := [.int .i64 x13.Tx, gv (q0_0 gx6.toNat) 0]) ag101 sz101 rfl (fun w' hw => hA0_0.cls0 hw) (zr_idx (vs := q0_0) ex13) rfl) ?_
             refine L.callVJ (fun v D => v = .bool (decide (x13.Tx = x6)) ∧ D = Cls w [] [.obj b11 [.int .i64 x6] 3, .obj b1 [u0_0, u0_2] 47] ∧ m18_quirref_StoryErr_K9 x13 x6 x4 gx2 go2 gx6 go3 = some r) rfl en54 rfl rfl Try.func54 rfl rfl rfl ?_ ?_
             ·
              refine W.seq (W.region (L.box rfl rfl ?_))
              intro b15
              refine L.y rfl (Y.assign rfl) ?_
              refine L.nil (E.thenN (W.seq (W.region (L.y rfl (Y.fieldP fd101_0 rfl) ?_))))
              refine L.y rfl (Y.loadP (i := 0) ag3 rfl rfl rfl) ?_
              refine L.y rfl (Y.loadP (i := 1) ag3 rfl rfl rfl) ?_
              refine L.y rfl (Y.eql rfl rfl) ?_
              refine L.y rfl (Y.assign rfl) ?_
              refine L.nil (E.thenN (W.ret (E.ret1 rfl rfl (fun w1 hw => ?_))))
              exact ⟨_, _, rfl, ⟨rfl, rfl, h⟩, hw.sel [1, 2] (by decide) rfl⟩
             ·
              rintro _ _ ⟨rfl, rfl, h⟩
              rw [m18_quirref_StoryErr_K9] at h
              refine L.nil (E.thenN (W.caseB (q := 16) h rfl (fun h => ?_) (fun h => ?_)))
              ·
               refine W.condT rfl ?_
               refine W.seq (W.region (L.y rfl (Y.move rfl) ?_))
               refine L.y rfl (Y.assign rfl) ?_
               refine L.nil (E.thenN (W.ret (E.blockR (E.thenR (E.KLR (E.blockR (E.KSR (E.ret1 rfl rfl (fun w1 hw => ?_)))))))))
               exact ⟨_, _, rfl, ⟨gx6, rfl, rfl, h⟩, hw.sel [1] (by decide) rfl⟩
              ·
               refine W.condF rfl ?_
               refine W.skip (E.blockN (E.thenN (W.region (L.m (V := fun x14 => .int .i64 x14) h rfl (Y.addM rfl rfl) (fun x14 ex14 h => ?_)))))
               refine L.y rfl (Y.move rfl) ?_
               exact L.nil (E.againJ ⟨x14, rfl, rfl, by rw [hg3]; exact h⟩ (Nat.lt_succ_self _) ⟨rfl, rfl, rfl, rfl, trivial⟩ (fun _ hw => hw))
            ·
             refine L.nil (E.thenN (W.seq (W.condF rfl ?_)))
             exact W.exit (E.thenX (E.KLX (E.blockX (E.joinJ ⟨rfl, rfl, h⟩ trivial (fun _ hw => hw.sel [1] (by decide) rfl)))))
           ·
            rintro _ _ ⟨rfl, rfl, h⟩
            rw [m18_quirref_StoryErr_K8] at h
            refine W.seq (W.region (L.y rfl (Y.assign rfl) ?_))
            refine L.nil (E.thenN (W.ret (E.ret1 rfl rfl (fun w1 hw => ?_))))
            exact ⟨_, _, rfl, ⟨(-1), rfl, rfl, h⟩, hw⟩
          ·
           rintro _ _ ⟨gx5, rfl, rfl, h⟩
           rw [m18_quirref_StoryErr_K7] at h
           refine L.y rfl (Y.geq rfl rfl) ?_
           refine L.y rfl (Y.assign rfl) ?_
           refine L.nil (E.thenN (W.ret (E.ret1 rfl rfl (fun w1 hw => ?_))))
           exact ⟨_, _, rfl, ⟨decide (0 ≤ gx5), rfl, rfl, h⟩, hw⟩
         ·
          rintro _ _ ⟨gb4, rfl, rfl, h⟩
          rw [m18_quirref_StoryErr_K6] at h
          refine L.y rfl (Y.assign rfl) ?_
          refine L.nil (E.thenN (W.ret (E.ret1 rfl rfl (fun w1 hw => ?_))))
          exact ⟨_, _, rfl, ⟨gb4, rfl, rfl, h⟩, hw⟩
        ·
         rintro _ _ ⟨gb3, rfl, rfl, h⟩
         rw [m18_quirref_StoryErr_K5] at h
         rcases gb3 with _ | _
         ·
          replace h := iteF h
          refine L.y rfl (Y.not rfl) ?_
          refine L.y rfl (Y.move rfl) ?_
          refine L.pass rfl rfl (by nofun) ?_
          refine L.pass rfl rfl (by nofun) ?_
          refine L.pass rfl rfl (by nofun) ?_
          refine L.pass rfl rfl (by nofun) ?_
          refine L.pass rfl rfl (by nofun) ?_
          refine L.y rfl (Y.pickT rfl rfl) ?_
          refine L.nil (E.thenN (W.condT rfl ?_))
          refine W.seq (W.region (L.y rfl (Y.assign rfl) ?_))
          refine L.nil (E.thenN (W.ret (E.blockR (E.thenR (E.KLR (E.blockR (E.blockR (E.KSR (E.KLR (E.blockR (E.KSR (E.ret1 rfl rfl (fun w1 hw => ?_)))))))))))))
          obtain rfl := Option.some.inj h
          exact ⟨_, _, rfl, ⟨rfl, rfl⟩, hw.sel [] (by decide) rfl⟩
         ·
          replace h := iteT h
          refine L.y rfl (Y.not rfl) ?_
          refine L.y rfl (Y.move rfl) ?_
          refine L.take rfl (L.y rfl (Y.move rfl) ?_)
          refine L.take rfl (L.y rfl (Y.move rfl) ?_)
          refine L.take rfl ?_
          obtain ⟨x7, e8, h⟩ := bind1S h
          refine L.y rfl (Y.does en56 rfl (fun w' hw => (w56_slices_Index_int x4 x6 (gv (q0_2 gx1.toNat) 0) w' _ e8 ((zAt (sds := (svSd 3 1 I)) (vs := q0_2) (j := 0) hD0_2 (fun _ _ => rfl) ex4 rfl).cls0 hw)).mono (fun _ _ h => h.1))) ?_
          refine L.take rfl (L.y rfl (Y.move rfl) ?_)
          refine L.take rfl (L.ite h rfl (Y.neq rfl rfl) (fun c9 h => ?_) (fun c9 h => ?_))
          ·
           refine L.y rfl (Y.pickF rfl rfl) ?_
           refine L.nil (E.thenN (W.condT rfl ?_))
           refine W.seq (W.region (L.y rfl (Y.assign rfl) ?_))
           refine L.nil (E.thenN (W.ret (E.blockR (E.thenR (E.KLR (E.blockR (E.blockR (E.KSR (E.KLR (E.blockR (E.KSR (E.ret1 rfl rfl (fun w1 hw => ?_)))))))))))))
           obtain rfl := Option.some.inj h
           exact ⟨_, _, rfl, ⟨rfl, rfl⟩, hw.sel [] (by decide) rfl⟩
          ·
           refine L.y rfl (Y.pickF rfl rfl) ?_
           refine L.nil (E.thenN (W.condF rfl ?_))
           refine W.skip (E.blockN (E.thenN (W.region (L.m (V := fun x10 => .int .i64 x10) h rfl (Y.addM rfl rfl) (fun x10 ex10 h => ?_)))))
           refine L.y rfl (Y.move rfl) ?_
           exact L.nil (E.againJ ⟨x10, rfl, rfl, by rw [hg2]; exact h⟩ (Nat.lt_succ_self _) ⟨rfl, rfl, rfl, rfl, rfl, rfl, rfl, rfl, trivial⟩ (fun _ hw => hw))
       ·
        refine L.nil (E.thenN (W.seq (W.condF rfl ?_)))
        exact W.exit (E.thenX (E.KLX (E.blockX (E.blockN (E.joinJ ⟨rfl, rfl, h⟩ ⟨rfl, rfl, rfl, rfl, trivial⟩ (fun _ hw => hw))))))
      ·
       rintro _ _ ⟨rfl, rfl, h⟩
       rw [m18_quirref_StoryErr_K4] at h
       refine W.region (L.m (V := fun x3 => .int .i64 x3) h rfl (Y.addM rfl rfl) (fun x3 ex3 h => ?_))
       refine L.y rfl (Y.move rfl) ?_
       exact L.nil (E.againJ ⟨x3, rfl, rfl, by rw [hg1]; exact h⟩ (Nat.lt_succ_self _) ⟨rfl, rfl, rfl, rfl, trivial⟩ (fun _ hw => hw))
     ·
      refine L.nil (E.thenN (W.seq (W.condF rfl ?_)))
      exact W.exit (E.thenX (E.KLX (E.blockX (E.joinJ ⟨rfl, rfl, h⟩ trivial (fun _ hw => hw.sel [] (by decide) rfl)))))
    ·
     rintro _ _ ⟨rfl, rfl, h⟩
     rw [m18_quirref_StoryErr_K3] at h
     refine W.seq (W.region (L.y rfl (Y.assign rfl) ?_))
     refine L.nil (E.thenN (W.ret (E.ret1 rfl rfl (fun w1 hw => ?_))))
     obtain rfl := Option.some.inj h
     exact ⟨_, _, rfl, ⟨rfl, rfl⟩, hw⟩
set_option maxRecDepth 100000 in
set_option maxHeartbeats 8000000 in
theorem w22_order_Check (a0 : TStory) (u0_0 : Value) (q0_0 : Nat → List Value) (u0_2 : Value) (q0_2 : Nat → List Value) (w : World) (r : Int) (h : m22_order_Check a0 = some r) (hA0_0 : At w u0_0 2 (zr TTale.rowv q0_0 a0.Tales)) (hD0_0 : ∀ d ∈ zs TTale.sds q0_0 a0.Tales, At w d.v d.k d.rows) (hA0_2 : At w u0_2 1 (zr svRow q0_2 a0.Versions)) (hD0_2 : ∀ d ∈ zs (svSd 3 1 I) q0_2 a0.Versions, At w d.v d.k d.rows) : Does Try.prog 22 [.agg #[u0_0, u0_2]] w fun u m => u = .int .i64 r ∧ m = [] := by
  rw [m22_order_Check] at h
  refine body (n := 123) Try.func22 rfl rfl rfl (Cls.refl w) ?_
  refine W.seq (W.region (L.box rfl rfl ?_))
  intro b1
  refine L.y rfl (Y.assign rfl) ?_
  refine L.nil (E.thenN (W.seqJ (fun gs D => gs = [(1, pt b1 0)] ∧ D = Cls w [] [.obj b1 [u0_0, u0_2] 47] ∧ m22_order_Check_K1 a0 = some r) ?_ ?_))
  ·
   refine W.seq (W.region (L.y rfl (Y.fieldP fd47_0 rfl) ?_))
   refine L.y rfl (Y.loadP (i := 0) ag44 rfl rfl rfl) ?_
   refine L.y rfl (Y.lenMZ (row := TTale.rowv) (vs := q0_0) (l := a0.Tales) Try.underlying44 rfl (fun w' hw => hA0_0.cls0 hw)) ?_
   refine L.ite h rfl (Y.gtr rfl rfl) (fun c38 h => ?_) (fun c38 h => ?_)
   ·
    refine L.y rfl (Y.move rfl) ?_
    refine L.pass rfl rfl (by nofun) ?_
    refine L.pass rfl rfl (by nofun) ?_
    refine L.pass rfl rfl (by nofun) ?_
    refine L.pass rfl rfl (by nofun) ?_
    refine L.y rfl (Y.pickT rfl rfl) ?_
    refine L.nil (E.thenN (W.condT rfl ?_))
    refine W.seq (W.region (L.y rfl (Y.assign rfl) ?_))
    refine L.nil (E.thenN (W.ret (E.KSR (E.ret1 rfl rfl (fun w1 hw => ?_)))))
    obtain rfl := Option.some.inj h
    exact ⟨_, _, rfl, ⟨rfl, rfl⟩, hw.sel [] (by decide) rfl⟩
   ·
    refine L.y rfl (Y.move rfl) ?_
    refine L.take rfl (L.y rfl (Y.fieldP fd47_1 rfl) ?_)
    refine L.take rfl (L.y rfl (Y.loadP (i := 0) ag45 rfl rfl rfl) ?_)
    refine L.take rfl (L.y rfl (Y.lenMZ (row := svRow) (vs := q0_2) (l := a0.Versions) Try.underlying45 rfl (fun w' hw => hA0_2.cls0 hw)) ?_)
    refine L.take rfl (L.ite h rfl (Y.gtr rfl rfl) (fun c39 h => ?_) (fun c39 h => ?_))
    ·
     refine L.y rfl (Y.pickF rfl rfl) ?_
     refine L.nil (E.thenN (W.condT rfl ?_))
     refine W.seq (W.region (L.y rfl (Y.assign rfl) ?_))
     refine L.nil (E.thenN (W.ret (E.KSR (E.ret1 rfl rfl (fun w1 hw => ?_)))))
     obtain rfl := Option.some.inj h
     exact ⟨_, _, rfl, ⟨rfl, rfl⟩, hw.sel [] (by decide) rfl⟩
    ·
     refine L.y rfl (Y.pickF rfl rfl) ?_
     refine L.nil (E.thenN (W.condF rfl ?_))
     exact W.skip (E.joinJ ⟨rfl, rfl, h⟩ ⟨rfl, trivial⟩ (fun _ hw => hw))
  ·
   rintro _ _ ⟨rfl, rfl, h⟩
   rw [m22_order_Check_K1] at h
   refine W.seqJ (fun gs D => gs = [(1, pt b1 0)] ∧ D = Cls w [] [.obj b1 [u0_0, u0_2] 47] ∧ m22_order_Check_K2 a0 = some r) ?_ ?_
   ·
    refine W.seq (W.region (L.y rfl (Y.fieldP fd47_0 rfl) ?_))
    refine L.y rfl (Y.loadP (i := 0) ag44 rfl rfl rfl) ?_
    refine L.y rfl (Y.lenMZ (row := TTale.rowv) (vs := q0_0) (l := a0.Tales) Try.underlying44 rfl (fun w' hw => hA0_0.cls0 hw)) ?_
    refine L.y rfl (Y.move rfl) ?_
    refine L.nil (E.thenN (W.block (W.loopJ (fun m gs D => ∃ (gx6 : Int), gs = [(1, pt b1 0), (22, u0_0), (23, .int .i64 (a0.Tales.length : Int)), (24, .int .i64 gx6)] ∧ D = Cls w [] [.obj b1 [u0_0, u0_2] 47] ∧ m22_order_Check_L4 a0 m gx6 = some r) ⟨0, rfl, rfl, h⟩ ⟨rfl, rfl, rfl, rfl, trivial⟩ (fun _ hw => hw) ?_)))
    rintro m _ _ ⟨gx6, rfl, rfl, h⟩
    rcases m with _ | m
    · rw [m22_order_Check_L4] at h; cases h
    rw [m22_order_Check_L4] at h
    generalize hg4 : m22_order_Check_L4 a0 m = go4 at h
    rw [m22_order_Check_L4B] at h
    refine W.seq (W.region (L.ite h rfl (Y.lss rfl rfl) (fun c16 h => ?_) (fun c16 h => ?_)))
    ·
     refine L.nil (E.thenN (W.seq (W.condT rfl ?_)))
     refine W.skip (E.thenN (W.seqJ (fun gs D => gs = [(1, pt b1 0), (22, u0_0), (23, .int .i64 (a0.Tales.length : Int)), (24, .int .i64 gx6)] ∧ D = Cls w [] [.obj b1 [u0_0, u0_2] 47] ∧ m22_order_Check_K9 gx6 go4 = some r) ?_ ?_))
     ·
      refine W.block (W.seq (W.region (L.y rfl (Y.move rfl) ?_)))
      refine L.m (V := fun _ => el u0_0 (gx6.toNat * 2)) h rfl (Y.indexMZ (row := TTale.rowv) (vs := q0_0) (l := a0.Tales) Try.underlying44 sz101 rfl rfl (fun w' hw => hA0_0.cls0 hw)) (fun x18 ex18 h => ?_)
      refine L.y rfl (Y.loadEN (r := [.int .i64 x18.Tx, gv (q0_0 gx6.toNat) 0]) ag101 sz101 rfl (fun w' hw => hA0_0.cls0 hw) (zr_idx (vs := q0_0) ex18) rfl) ?_
      refine L.alloc rfl ze101 ?_
      intro b19
      refine L.y rfl (Y.assign rfl) ?_
      refine L.storeC (i := 0) sz101 rfl rfl rfl rfl (fun w hw => (all1 rfl (all1 (At.cls0 (zAt (sds := TTale.sds) (vs := q0_0) (j := 0) hD0_0 (fun _ _ => rfl) ex18 rfl) hw).one all0))) rfl (Nat.le_of_ble_eq_true rfl) ?_
      refine L.nil (E.thenN (W.seqJ (fun gs D => gs = [(1, pt b1 0), (3, .int .i64 gx6), (4, pt b19 0), (22, u0_0), (23, .int .i64 (a0.Tales.length : Int)), (24, .int .i64 gx6)] ∧ D = Cls w [] [.obj b19 [.int .i64 x18.Tx, gv (q0_0 gx6.toNat) 0] 101, .obj b1 [u0_0, u0_2] 47] ∧ m22_order_Check_K10 gx6 a0 x18 go4 = some r) ?_ ?_))
      ·
       refine W.seq (W.region (L.y rfl (Y.fieldP fd101_0 rfl) ?_))
       refine L.y rfl (Y.loadP (i := 0) ag3 rfl rfl rfl) ?_
       refine L.ite h rfl (Y.lss rfl rfl) (fun c36 h => ?_) (fun c36 h => ?_)
       ·
        refine L.y rfl (Y.move rfl) ?_
        refine L.pass rfl rfl (by nofun) ?_
        refine L.pass rfl rfl (by nofun) ?_
        refine L.pass rfl rfl (by nofun) ?_
        refine L.y rfl (Y.pickT rfl rfl) ?_
        refine L.nil (E.thenN (W.condT rfl ?_))
        refine W.seq (W.region (L.y rfl (Y.assign rfl) ?_))
        refine L.nil (E.thenN (W.ret (E.KSR (E.blockR (E.KSR (E.KLR (E.blockR (E.KSR (E.ret1 rfl rfl (fun w1 hw => ?_))))))))))
        obtain rfl := Option.some.inj h
        exact ⟨_, _, rfl, ⟨rfl, rfl⟩, hw.sel [] (by decide) rfl⟩
       ·
        refine L.y rfl (Y.move rfl) ?_
        refine L.take rfl (L.y rfl (Y.fieldP fd101_0 rfl) ?_)
        refine L.take rfl (L.y rfl (Y.loadP (i := 0) ag3 rfl rfl rfl) ?_)
        refine L.take rfl (L.ite h rfl (Y.geq rfl rfl) (fun c37 h => ?_) (fun c37 h => ?_))
        ·
         refine L.y rfl (Y.pickF rfl rfl) ?_
         refine L.nil (E.thenN (W.condT rfl ?_))
         refine W.seq (W.region (L.y rfl (Y.assign rfl) ?_))
         refine L.nil (E.thenN (W.ret (E.KSR (E.blockR (E.KSR (E.KLR (E.blockR (E.KSR (E.ret1 rfl rfl (fun w1 hw => ?_))))))))))
         obtain rfl := Option.some.inj h
         exact ⟨_, _, rfl, ⟨rfl, rfl⟩, hw.sel [] (by decide) rfl⟩
        ·
         refine L.y rfl (Y.pickF rfl rfl) ?_
         refine L.nil (E.thenN (W.condF rfl ?_))
         exact W.skip (E.joinJ ⟨rfl, rfl, h⟩ ⟨rfl, rfl, rfl, rfl, rfl, rfl, trivial⟩ (fun _ hw => hw))
      ·
       rintro _ _ ⟨rfl, rfl, h⟩
       rw [m22_order_Check_K10] at h
       refine W.seqJ (fun gs D => gs = [(1, pt b1 0), (4, pt b19 0), (22, u0_0), (23, .int .i64 (a0.Tales.length : Int)), (24, .int .i64 gx6)] ∧ D = Cls w [] [.obj b19 [.int .i64 x18.Tx, gv (q0_0 gx6.toNat) 0] 101, .obj b1 [u0_0, u0_2] 47] ∧ m22_order_Check_K11 x18 a0 gx6 go4 = some r) ?_ ?_
       ·
        refine W.seq (W.quietC mixed (by kernel_rfl) (fun _ hw => hw.drew) (fun hC => ?_))
        refine U.y rfl (Y.move rfl) ?_
        refine U.ite h rfl (Y.gtr rfl rfl) (fun c32 h => ?_) (fun c32 h => ?_)
        ·
         refine U.y rfl (Y.move rfl) ?_
         refine U.take rfl (U.y rfl (Y.fieldP fd101_0 rfl) ?_)
         refine U.take rfl (U.y rfl (Y.loadP (i := 0) ag3 rfl rfl rfl) ?_)
         refine U.take rfl (U.y rfl (Y.fieldP fd47_0 rfl) ?_)
         refine U.take rfl (U.y rfl (Y.loadP (i := 1) ag44 rfl rfl rfl) ?_)
         refine U.take rfl (U.y rfl (Y.move rfl) ?_)
         refine U.take rfl (U.m (V := fun x33 => .int .i64 x33) h rfl (Y.subM rfl rfl) (fun x33 ex33 h => ?_))
         refine U.take rfl (U.m (V := fun _ => el u0_0 (x33.toNat * 2)) h rfl (Y.indexMZ (row := TTale.rowv) (vs := q0_0) (l := a0.Tales) Try.underlying44 sz101 rfl rfl (fun w' hw => hA0_0.cls0 hw)) (fun x34 ex34 h => ?_))
         refine U.take rfl (U.y rfl (Y.fieldE fd101_0 rfl) ?_)
         refine U.take rfl (U.y rfl (Y.loadE (u := .int .i64 x34.Tx) ag3 rfl (fun w' hw => hA0_0.cls0 hw) (zr_idx (vs := q0_0) ex34) rfl) ?_)
         refine U.take rfl (U.ite h rfl (Y.leq rfl rfl) (fun c35 h => ?_) (fun c35 h => ?_))
         ·
          refine U.y rfl (Y.pickT rfl rfl) ?_
          refine U.nil (E.thenN (W.condT rfl ?_))
          refine W.seq (W.region (L.y rfl (Y.assign rfl) ?_))
          refine L.nil (E.thenN (W.ret (E.KSR (E.blockR (E.KSR (E.KLR (E.blockR (E.KSR (E.ret1 rfl rfl (fun w1 hw => ?_))))))))))
          obtain rfl := Option.some.inj h
          exact ⟨_, _, rfl, ⟨rfl, rfl⟩, hw.sel [] (by decide) rfl⟩
         ·
          refine U.y rfl (Y.pickT rfl rfl) ?_
          refine U.nil (E.thenN (W.condF rfl ?_))
          exact W.skip (E.joinJ ⟨rfl, rfl, h⟩ ⟨rfl, rfl, rfl, rfl, rfl, trivial⟩ (fun _ hw => hw))
        ·
         refine U.y rfl (Y.move rfl) ?_
         refine U.pass rfl rfl (by nofun) ?_
         refine U.pass rfl rfl (by nofun) ?_
         refine U.pass rfl rfl (by nofun) ?_
         refine U.pass rfl rfl (by nofun) ?_
         refine U.pass rfl rfl (by nofun) ?_
         refine U.pass rfl rfl (by nofun) ?_
         refine U.pass rfl rfl (by nofun) ?_
         refine U.pass rfl rfl (by nofun) ?_
         refine U.pass rfl rfl (by nofun) ?_
         refine U.pass rfl rfl (by nofun) ?_
         refine U.y rfl (Y.pickF rfl rfl) ?_
         refine U.nil (E.thenN (W.condF rfl ?_))
         exact W.skip (E.joinJ ⟨rfl, rfl, h⟩ ⟨rfl, rfl, rfl, rfl, rfl, trivial⟩ (fun _ hw => hw))
       ·
        rintro _ _ ⟨rfl, rfl, h⟩
        rw [m22_order_Check_K11] at h
        refine W.seq (W.region (L.y rfl (Y.fieldP fd101_1 rfl) ?_))
        refine L.y rfl (Y.loadP (i := 0) ag99 rfl rfl rfl) ?_
        refine L.y rfl (Y.lenM (g := TGot.row) (l := x18.Reads) Try.underlying99 rfl (fun w' hw => (zAt (sds := TTale.sds) (vs := q0_0) (j := 0) hD0_0 (fun _ _ => rfl) ex18 rfl).cls0 hw)) ?_
        refine L.y rfl (Y.move rfl) ?_
        refine L.nil (E.thenN (W.block (W.loopJ (fun m gs D => ∃ (gx7 : Int), gs = [(1, pt b1 0), (4, pt b19 0), (22, u0_0), (23, .int .i64 (a0.Tales.length : Int)), (24, .int .i64 gx6), (52, gv (q0_0 gx6.toNat) 0), (53, .int .i64 (x18.Reads.length : Int)), (54, .int .i64 gx7)] ∧ D = Cls w [] [.obj b19 [.int .i64 x18.Tx, gv (q0_0 gx6.toNat) 0] 101, .obj b1 [u0_0, u0_2] 47] ∧ m22_order_Check_L5 x18 a0 gx6 go4 m gx7 = some r) ⟨0, rfl, rfl, h⟩ ⟨rfl, rfl, rfl, rfl, rfl, rfl, rfl, rfl, trivial⟩ (fun _ hw => hw) ?_)))
        rintro m _ _ ⟨gx7, rfl, rfl, h⟩
        rcases m with _ | m
        · rw [m22_order_Check_L5] at h; cases h
        rw [m22_order_Check_L5] at h
        generalize hg5 : m22_order_Check_L5 x18 a0 gx6 go4 m = go5 at h
        rw [m22_order_Check_L5B] at h
        refine W.seq (W.region (L.ite h rfl (Y.lss rfl rfl) (fun c20 h => ?_) (fun c20 h => ?_)))
        ·
         refine L.nil (E.thenN (W.seq (W.condT rfl ?_)))
         refine W.skip (E.thenN (W.seq (W.block (W.seq (W.region (L.m (V := fun _ => el (gv (q0_0 gx6.toNat) 0) (gx7.toNat * 2)) h rfl (Y.indexM (g := TGot.row) (l := x18.Reads) Try.underlying99 sz104 rfl rfl (fun w' hw => (zAt (sds := TTale.sds) (vs := q0_0) (j := 0) hD0_0 (fun _ _ => rfl) ex18 rfl).cls0 hw)) (fun x21 ex21 h => ?_)))))))
         refine L.y rfl (Y.loadEN (r := [.int .i64 x21.Item, .int .i64 x21.From]) ag104 sz104 rfl (fun w' hw => (zAt (sds := TTale.sds) (vs := q0_0) (j := 0) hD0_0 (fun _ _ => rfl) ex18 rfl).cls0 hw) (idx_map ex21) rfl) ?_
         refine L.alloc rfl ze104 ?_
         intro b22
         refine L.store (i := 0) sz104 rfl rfl rfl rfl (by simp [Value.oneCell', Value.cells, st]) rfl (Nat.le_of_ble_eq_true rfl) ?_
         refine L.nil (E.thenN (W.seq (W.quietC mixed (by kernel_rfl) (fun _ hw => hw.drew) (fun hC => ?_))))
         refine U.cutJ hC 11 (fun gs => ∃ (gb8 : Bool), gs = [(1, pt b1 0), (4, pt b19 0), (6, pt b22 0), (22, u0_0), (23, .int .i64 (a0.Tales.length : Int)), (24, .int .i64 gx6), (52, gv (q0_0 gx6.toNat) 0), (53, .int .i64 (x18.Reads.length : Int)), (54, .int .i64 gx7), (68, .bool gb8)] ∧ m22_order_Check_K12 x21 x18 a0 gx7 go5 gb8 = some r) ?_ ?_
         ·
          refine U.y rfl (Y.fieldP fd104_0 rfl) ?_
          refine U.y rfl (Y.loadP (i := 0) ag3 rfl rfl rfl) ?_
          refine U.ite h rfl (Y.lss rfl rfl) (fun c30 h => ?_) (fun c30 h => ?_)
          ·
           refine U.y rfl (Y.move rfl) ?_
           refine U.pass rfl rfl (by nofun) ?_
           refine U.pass rfl rfl (by nofun) ?_
           refine U.pass rfl rfl (by nofun) ?_
           refine U.pass rfl rfl (by nofun) ?_
           refine U.pass rfl rfl (by nofun) ?_
           refine U.pass rfl rfl (by nofun) ?_
           refine U.y rfl (Y.pickT rfl rfl) ?_
           exact U.nil (E.joinU ⟨true, rfl, h⟩ ⟨rfl, rfl, rfl, rfl, rfl, rfl, rfl, rfl, rfl, rfl, trivial⟩)
          ·
           refine U.y rfl (Y.move rfl) ?_
           refine U.take rfl (U.y rfl (Y.fieldP fd104_0 rfl) ?_)
           refine U.take rfl (U.y rfl (Y.loadP (i := 0) ag3 rfl rfl rfl) ?_)
           refine U.take rfl (U.y rfl (Y.fieldP fd47_1 rfl) ?_)
           refine U.take rfl (U.y rfl (Y.loadP (i := 2) ag45 rfl rfl rfl) ?_)
           refine U.take rfl (U.y rfl (Y.lenMZ (row := svRow) (vs := q0_2) (l := a0.Versions) Try.underlying45 rfl (fun w' hw => hA0_2.cls0 hw)) ?_)
           refine U.take rfl (U.ite h rfl (Y.geq rfl rfl) (fun c31 h => ?_) (fun c31 h => ?_))
           ·
            refine U.y rfl (Y.pickF rfl rfl) ?_
            exact U.nil (E.joinU ⟨true, rfl, h⟩ ⟨rfl, rfl, rfl, rfl, rfl, rfl, rfl, rfl, rfl, rfl, trivial⟩)
           ·
            refine U.y rfl (Y.pickF rfl rfl) ?_
            exact U.nil (E.joinU ⟨false, rfl, h⟩ ⟨rfl, rfl, rfl, rfl, rfl, rfl, rfl, rfl, rfl, rfl, trivial⟩)
         ·
          rintro _ ⟨gb8, rfl, h⟩
          rw [m22_order_Check_K12] at h
          rcases gb8 with _ | _
          ·
           replace h := iteF h
           refine U.y rfl (Y.move rfl) ?_
           refine U.take rfl (U.y rfl (Y.fieldP fd104_1 rfl) ?_)
           refine U.take rfl (U.y rfl (Y.loadP (i := 0) ag3 rfl rfl rfl) ?_)
           refine U.take rfl (U.y rfl (Y.fieldP fd101_0 rfl) ?_)
           refine U.take rfl (U.y rfl (Y.loadP (i := 1) ag3 rfl rfl rfl) ?_)
           refine U.take rfl (U.ite h rfl (Y.eql rfl rfl) (fun c23 h => ?_) (fun c23 h => ?_))
           ·
            refine U.y rfl (Y.pickF rfl rfl) ?_
            refine U.y rfl (Y.move rfl) ?_
            refine U.pass rfl rfl (by nofun) ?_
            refine U.pass rfl rfl (by nofun) ?_
            refine U.pass rfl rfl (by nofun) ?_
            refine U.pass rfl rfl (by nofun) ?_
            refine U.pass rfl rfl (by nofun) ?_
            refine U.pass rfl rfl (by nofun) ?_
            refine U.pass rfl rfl (by nofun) ?_
            refine U.pass rfl rfl (by nofun) ?_
            refine U.pass rfl rfl (by nofun) ?_
            refine U.pass rfl rfl (by nofun) ?_
            refine U.pass rfl rfl (by nofun) ?_
            refine U.pass rfl rfl (by nofun) ?_
            refine U.pass rfl rfl (by nofun) ?_
            refine U.pass rfl rfl (by nofun) ?_
            refine U.pass rfl rfl (by nofun) ?_
            refine U.y rfl (Y.pickT rfl rfl) ?_
            refine U.nil (E.thenN (W.condT rfl ?_))
            refine W.seq (W.region (L.y rfl (Y.assign rfl) ?_))
            refine L.nil (E.thenN (W.ret (E.blockR (E.thenR (E.KLR (E.blockR (E.blockR (E.KSR (E.KLR (E.blockR (E.KSR (E.ret1 rfl rfl (fun w1 hw => ?_)))))))))))))
            obtain rfl := Option.some.inj h
            exact ⟨_, _, rfl, ⟨rfl, rfl⟩, hw.sel [] (by decide) rfl⟩
           ·
            refine U.y rfl (Y.pickF rfl rfl) ?_
            refine U.y rfl (Y.move rfl) ?_
            refine U.take rfl (U.y rfl (Y.fieldP fd104_1 rfl) ?_)
            refine U.take rfl (U.y rfl (Y.loadP (i := 0) ag3 rfl rfl rfl) ?_)
            refine U.take rfl (U.ite h rfl (Y.neq rfl rfl) (fun c24 h => ?_) (fun c24 h => ?_))
            ·
             refine U.take rfl (U.y rfl (Y.move rfl) ?_)
             refine U.take rfl (U.y rfl (Y.fieldP fd47_1 rfl) ?_)
             refine U.take rfl (U.y rfl (Y.loadP (i := 2) ag45 rfl rfl rfl) ?_)
             refine U.take rfl (U.y rfl (Y.fieldP fd104_0 rfl) ?_)
             refine U.take rfl (U.y rfl (Y.loadP (i := 0) ag3 rfl rfl rfl) ?_)
             refine U.take rfl (U.m (V := fun _ => el u0_2 (x21.Item.toNat * 1)) h rfl (Y.indexMZ (row := svRow) (vs := q0_2) (l := a0.Versions) Try.underlying45 sz28 rfl rfl (fun w' hw => hA0_2.cls0 hw)) (fun x25 ex25 h => ?_))
             refine U.take rfl (U.y rfl (Y.loadE1 (u := gv (q0_2 x21.Item.toNat) 0) ag28 rfl (fun w' hw => hA0_2.cls0 hw) (zr_idx (vs := q0_2) ex25)) ?_)
             refine U.take rfl (U.y rfl (Y.fieldP fd104_1 rfl) ?_)
             refine U.take rfl (U.y rfl (Y.loadP (i := 0) ag3 rfl rfl rfl) ?_)
             refine U.take rfl ?_
             obtain ⟨b26, e27, h⟩ := bind1S h
             refine U.y rfl (Y.does en55 rfl (fun w' hw => (w55_slices_Contains_int x25 x21.From (gv (q0_2 x21.Item.toNat) 0) w' _ e27 ((zAt (sds := (svSd 3 1 I)) (vs := q0_2) (j := 0) hD0_2 (fun _ _ => rfl) ex25 rfl).cls0 hw)).mono (fun _ _ h => h.1))) ?_
             rcases b26 with _ | _
             ·
              replace h := iteF h
              refine U.take rfl (U.y rfl (Y.not rfl) ?_)
              refine U.take rfl (U.y rfl (Y.pickT rfl rfl) ?_)
              refine U.y rfl (Y.pickF rfl rfl) ?_
              refine U.nil (E.thenN (W.condT rfl ?_))
              refine W.seq (W.region (L.y rfl (Y.assign rfl) ?_))
              refine L.nil (E.thenN (W.ret (E.blockR (E.thenR (E.KLR (E.blockR (E.blockR (E.KSR (E.KLR (E.blockR (E.KSR (E.ret1 rfl rfl (fun w1 hw => ?_)))))))))))))
              obtain rfl := Option.some.inj h
              exact ⟨_, _, rfl, ⟨rfl, rfl⟩, hw.sel [] (by decide) rfl⟩
             ·
              replace h := iteT h
              refine U.take rfl (U.y rfl (Y.not rfl) ?_)
              refine U.take rfl (U.y rfl (Y.pickT rfl rfl) ?_)
              refine U.y rfl (Y.pickF rfl rfl) ?_
              refine U.nil (E.thenN (W.condF rfl ?_))
              refine W.skip (E.blockN (E.thenN (W.region (L.m (V := fun x28 => .int .i64 x28) h rfl (Y.addM rfl rfl) (fun x28 ex28 h => ?_)))))
              refine L.y rfl (Y.move rfl) ?_
              exact L.nil (E.againJ ⟨x28, rfl, rfl, by rw [hg5]; exact h⟩ (Nat.lt_succ_self _) ⟨rfl, rfl, rfl, rfl, rfl, rfl, rfl, rfl, trivial⟩ (fun _ hw => hw.sel [1, 2] (by decide) rfl))
            ·
             refine U.take rfl (U.y rfl (Y.move rfl) ?_)
             refine U.pass rfl rfl (by nofun) ?_
             refine U.pass rfl rfl (by nofun) ?_
             refine U.pass rfl rfl (by nofun) ?_
             refine U.pass rfl rfl (by nofun) ?_
             refine U.pass rfl rfl (by nofun) ?_
             refine U.pass rfl rfl (by nofun) ?_
             refine U.pass rfl rfl (by nofun) ?_
             refine U.pass rfl rfl (by nofun) ?_
             refine U.pass rfl rfl (by nofun) ?_
             refine U.pass rfl rfl (by nofun) ?_
             refine U.take rfl (U.y rfl (Y.pickF rfl rfl) ?_)
             refine U.y rfl (Y.pickF rfl rfl) ?_
             refine U.nil (E.thenN (W.condF rfl ?_))
             refine W.skip (E.blockN (E.thenN (W.region (L.m (V := fun x29 => .int .i64 x29) h rfl (Y.addM rfl rfl) (fun x29 ex29 h => ?_)))))
             refine L.y rfl (Y.move rfl) ?_
             exact L.nil (E.againJ ⟨x29, rfl, rfl, by rw [hg5]; exact h⟩ (Nat.lt_succ_self _) ⟨rfl, rfl, rfl, rfl, rfl, rfl, rfl, rfl, trivial⟩ (fun _ hw => hw.sel [1, 2] (by decide) rfl))
          ·
           replace h := iteT h
           refine U.y rfl (Y.move rfl) ?_
           refine U.pass rfl rfl (by nofun) ?_
           refine U.pass rfl rfl (by nofun) ?_
           refine U.pass rfl rfl (by nofun) ?_
           refine U.pass rfl rfl (by nofun) ?_
           refine U.pass rfl rfl (by nofun) ?_
           refine U.y rfl (Y.pickT rfl rfl) ?_
           refine U.y rfl (Y.move rfl) ?_
           refine U.pass rfl rfl (by nofun) ?_
           refine U.pass rfl rfl (by nofun) ?_
           refine U.pass rfl rfl (by nofun) ?_
           refine U.pass rfl rfl (by nofun) ?_
           refine U.pass rfl rfl (by nofun) ?_
           refine U.pass rfl rfl (by nofun) ?_
           refine U.pass rfl rfl (by nofun) ?_
           refine U.pass rfl rfl (by nofun) ?_
           refine U.pass rfl rfl (by nofun) ?_
           refine U.pass rfl rfl (by nofun) ?_
           refine U.pass rfl rfl (by nofun) ?_
           refine U.pass rfl rfl (by nofun) ?_
           refine U.pass rfl rfl (by nofun) ?_
           refine U.pass rfl rfl (by nofun) ?_
           refine U.pass rfl rfl (by nofun) ?_
           refine U.y rfl (Y.pickT rfl rfl) ?_
           refine U.nil (E.thenN (W.condT rfl ?_))
           refine W.seq (W.region (L.y rfl (Y.assign rfl) ?_))
           refine L.nil (E.thenN (W.ret (E.blockR (E.thenR (E.KLR (E.blockR (E.blockR (E.KSR (E.KLR (E.blockR (E.KSR (E.ret1 rfl rfl (fun w1 hw => ?_)))))))))))))
           obtain rfl := Option.some.inj h
           exact ⟨_, _, rfl, ⟨rfl, rfl⟩, hw.sel [] (by decide) rfl⟩
        ·
         refine L.nil (E.thenN (W.seq (W.condF rfl ?_)))
         exact W.exit (E.thenX (E.KLX (E.blockX (E.blockN (E.joinJ ⟨rfl, rfl, h⟩ ⟨rfl, rfl, rfl, rfl, trivial⟩ (fun _ hw => hw.sel [1] (by decide) rfl))))))
     ·
      rintro _ _ ⟨rfl, rfl, h⟩
      rw [m22_order_Check_K9] at h
      refine W.region (L.m (V := fun x17 => .int .i64 x17) h rfl (Y.addM rfl rfl) (fun x17 ex17 h => ?_))
      refine L.y rfl (Y.move rfl) ?_
      exact L.nil (E.againJ ⟨x17, rfl, rfl, by rw [hg4]; exact h⟩ (Nat.lt_succ_self _) ⟨rfl, rfl, rfl, rfl, trivial⟩ (fun _ hw => hw))
    ·
     refine L.nil (E.thenN (W.seq (W.condF rfl ?_)))
     exact W.exit (E.thenX (E.KLX (E.blockX (E.joinJ ⟨rfl, rfl, h⟩ ⟨rfl, trivial⟩ (fun _ hw => hw)))))
   ·
    rintro _ _ ⟨rfl, rfl, h⟩
    rw [m22_order_Check_K2] at h
    refine W.seqJ (fun gs D => gs = [] ∧ D = Cls w [] [] ∧ m22_order_Check_K3 = some r) ?_ ?_
    ·
     refine W.seq (W.region (L.y rfl (Y.fieldP fd47_1 rfl) ?_))
     refine L.y rfl (Y.loadP (i := 0) ag45 rfl rfl rfl) ?_
     refine L.y rfl (Y.lenMZ (row := svRow) (vs := q0_2) (l := a0.Versions) Try.underlying45 rfl (fun w' hw => hA0_2.cls0 hw)) ?_
     refine L.y rfl (Y.move rfl) ?_
     refine L.nil (E.thenN (W.block (W.loopJ (fun m gs D => ∃ (gx1 : Int), gs = [(1, pt b1 0), (96, u0_2), (97, .int .i64 (a0.Versions.length : Int)), (98, .int .i64 gx1)] ∧ D = Cls w [] [.obj b1 [u0_0, u0_2] 47] ∧ m22_order_Check_L1 a0 m gx1 = some r) ⟨0, rfl, rfl, h⟩ ⟨rfl, rfl, rfl, rfl, trivial⟩ (fun _ hw => hw) ?_)))
     rintro m _ _ ⟨gx1, rfl, rfl, h⟩
     rcases m with _ | m
     · rw [m22_order_Check_L1] at h; cases h
     rw [m22_order_Check_L1] at h
     generalize hg1 : m22_order_Check_L1 a0 m = go1 at h
     rw [m22_order_Check_L1B] at h
     refine W.seq (W.region (L.ite h rfl (Y.lss rfl rfl) (fun c2 h => ?_) (fun c2 h => ?_)))
     ·
      refine L.nil (E.thenN (W.seq (W.condT rfl ?_)))
      refine W.skip (E.thenN (W.seqJ (fun gs D => gs = [(1, pt b1 0), (96, u0_2), (97, .int .i64 (a0.Versions.length : Int)), (98, .int .i64 gx1)] ∧ D = Cls w [] [.obj b1 [u0_0, u0_2] 47] ∧ m22_order_Check_K4 gx1 go1 = some r) ?_ ?_))
      ·
       refine W.block (W.seq (W.region (L.m (V := fun _ => el u0_2 (gx1.toNat * 1)) h rfl (Y.indexMZ (row := svRow) (vs := q0_2) (l := a0.Versions) Try.underlying45 sz28 rfl rfl (fun w' hw => hA0_2.cls0 hw)) (fun x4 ex4 h => ?_))))
       refine L.y rfl (Y.loadE1 (u := gv (q0_2 gx1.toNat) 0) ag28 rfl (fun w' hw => hA0_2.cls0 hw) (zr_idx (vs := q0_2) ex4)) ?_
       refine L.y rfl (Y.assign rfl) ?_
       refine L.nil (E.thenN (W.seq (W.region (L.y rfl (Y.move rfl) ?_))))
       refine L.y rfl (Y.lenM (g := I) (l := x4) Try.underlying28 rfl (fun w' hw => (zAt (sds := (svSd 3 1 I)) (vs := q0_2) (j := 0) hD0_2 (fun _ _ => rfl) ex4 rfl).cls0 hw)) ?_
       refine L.y rfl (Y.move rfl) ?_
       refine L.nil (E.thenN (W.block (W.loopJ (fun m gs D => ∃ (gx2 : Int), gs = [(1, pt b1 0), (8, gv (q0_2 gx1.toNat) 0), (96, u0_2), (97, .int .i64 (a0.Versions.length : Int)), (98, .int .i64 gx1), (102, gv (q0_2 gx1.toNat) 0), (103, .int .i64 (x4.length : Int)), (104, .int .i64 gx2)] ∧ D = Cls w [] [.obj b1 [u0_0, u0_2] 47] ∧ m22_order_Check_L2 x4 a0 gx1 go1 m gx2 = some r) ⟨0, rfl, rfl, h⟩ ⟨rfl, rfl, rfl, rfl, rfl, rfl, rfl, rfl, trivial⟩ (fun _ hw => hw) ?_)))
       rintro m _ _ ⟨gx2, rfl, rfl, h⟩
       rcases m with _ | m
       · rw [m22_order_Check_L2] at h; cases h
       rw [m22_order_Check_L2] at h
       generalize hg2 : m22_order_Check_L2 x4 a0 gx1 go1 m = go2 at h
       rw [m22_order_Check_L2B] at h
       refine W.seq (W.region (L.ite h rfl (Y.lss rfl rfl) (fun c5 h => ?_) (fun c5 h => ?_)))
       ·
        refine L.nil (E.thenN (W.seq (W.condT rfl ?_)))
        refine W.skip (E.thenN (W.seq (W.block (W.seq (W.region (L.y rfl (Y.move rfl) ?_))))))
        refine L.m (V := fun _ => el (gv (q0_2 gx1.toNat) 0) (gx2.toNat * 1)) h rfl (Y.indexM (g := I) (l := x4) Try.underlying28 sz3 rfl rfl (fun w' hw => (zAt (sds := (svSd 3 1 I)) (vs := q0_2) (j := 0) hD0_2 (fun _ _ => rfl) ex4 rfl).cls0 hw)) (fun x6 ex6 h => ?_)
        refine L.y rfl (Y.loadE1 (u := .int .i64 x6) ag3 rfl (fun w' hw => (zAt (sds := (svSd 3 1 I)) (vs := q0_2) (j := 0) hD0_2 (fun _ _ => rfl) ex4 rfl).cls0 hw) (idx_map ex6)) ?_
        refine L.alloc rfl ze3 ?_
        intro b7
        refine L.y rfl (Y.assign rfl) ?_
        refine L.store (i := 0) sz3 rfl rfl rfl rfl (by simp [Value.oneCell', Value.cells, st]) rfl (Nat.le_of_ble_eq_true rfl) ?_
        refine L.nil (E.thenN (W.seq (W.drawn2 (k := 12) (stC [] [] (Cls w [] [.obj b7 [.int .i64 x6] 3, .obj b1 [u0_0, u0_2] 47])) rfl mixed (fun _ hw => hw.drew) (Sc.atD (fun _ hw => hw)) ?_)))
        refine V2.y (i := 0) (Nx2.of (Z := Cls w [] [.obj b7 [.int .i64 x6] 3, .obj b1 [u0_0, u0_2] 47]) [] (by kernel_rfl) rfl (Zc.fin (fun _ hw => hw))) rfl rfl rfl (Y.move rfl) ?_
        refine V2.y (i := 1) (Nx2.of (Z := Cls w [] [.obj b7 [.int .i64 x6] 3, .obj b1 [u0_0, u0_2] 47]) [] (by kernel_rfl) rfl (Zc.fin (fun _ hw => hw))) rfl rfl rfl (Y.move rfl) ?_
        refine V2.m (i := 2) (V' := fun _ => cutv (gv (q0_2 gx1.toNat) 0) gx2.toNat) h (Nx2.of (Z := Cls w [] [.obj b7 [.int .i64 x6] 3, .obj b1 [u0_0, u0_2] 47]) [] (by kernel_rfl) rfl (Zc.fin (fun _ hw => hw))) rfl rfl rfl (Y.cutM (g := I) Try.underlying28 sz3 rfl rfl (fun w' hw => (zAt (sds := (svSd 3 1 I)) (vs := q0_2) (j := 0) hD0_2 (fun _ _ => rfl) ex4 rfl).cls0 hw)) (fun l8 el8 h => ?_)
        refine V2.y (i := 3) (Nx2.of (Z := Cls w [] [.obj b7 [.int .i64 x6] 3, .obj b1 [u0_0, u0_2] 47]) [] (by kernel_rfl) rfl (Zc.fin (fun _ hw => hw))) rfl rfl rfl (Y.loadP (i := 0) ag3 rfl rfl rfl) ?_
        refine V2.eff (i := 4) (by kernel_rfl) rfl ?_
        obtain ⟨b9, e10, h⟩ := bind1S h
        refine L.y rfl (Y.does en55 rfl (fun w' hw => (w55_slices_Contains_int l8 x6 (cutv (gv (q0_2 gx1.toNat) 0) gx2.toNat) w' _ e10 ((At.cutM (zAt (sds := (svSd 3 1 I)) (vs := q0_2) (j := 0) hD0_2 (fun _ _ => rfl) ex4 rfl) el8).cls0 hw)).mono (fun _ _ h => h.1))) ?_
        rcases b9 with _ | _
        ·
         replace h := iteF h
         refine L.nil (E.toV2 (stC [] [] (Cls w [] [.obj b7 [.int .i64 x6] 3, .obj b1 [u0_0, u0_2] 47])) 4 (by kernel_rfl) (Sc.stayD (fun _ hw => hw)) (Sc.atD (fun _ hw => hw)) ?_)
         refine V2.y (i := 5) (Nx2.of (Z := Cls w [] [.obj b7 [.int .i64 x6] 3, .obj b1 [u0_0, u0_2] 47]) [] (by kernel_rfl) rfl (Zc.fin (fun _ hw => hw))) rfl rfl rfl (Y.move rfl) ?_
         refine V2.y (i := 6) (Nx2.of (Z := Cls w [] [.obj b7 [.int .i64 x6] 3, .obj b1 [u0_0, u0_2] 47]) [] (by kernel_rfl) rfl (Zc.fin (fun _ hw => hw))) rfl rfl rfl (Y.fieldP fd47_0 rfl) ?_
         refine V2.y (i := 7) (Nx2.of (Z := Cls w [] [.obj b7 [.int .i64 x6] 3, .obj b1 [u0_0, u0_2] 47]) [] (by kernel_rfl) rfl (Zc.fin (fun _ hw => hw))) rfl rfl rfl (Y.loadP (i := 1) ag44 rfl rfl rfl) ?_
         refine V2.y (i := 8) (Nx2.of (Z := Cls w [] [.obj b7 [.int .i64 x6] 3, .obj b1 [u0_0, u0_2] 47]) [] (by kernel_rfl) rfl (Zc.fin (fun _ hw => hw))) rfl rfl rfl (Y.func rfl) ?_
         refine V2.eff (i := 9) (by kernel_rfl) rfl ?_
         refine L.take rfl (L.callJ (fun v D => ∃ (gb3 : Bool), v = .bool gb3 ∧ D = Cls w [] [.obj b7 [.int .i64 x6] 3, .obj b1 [u0_0, u0_2] 47] ∧ m22_order_Check_K5 gx2 go2 gb3 = some r) rfl en53 rfl Try.func53 rfl rfl rfl ?_ ?_)
         ·
          refine W.seq (W.region (L.y rfl (Y.assign rfl) ?_))
          refine L.nil (E.thenN (W.seq (W.region (L.y rfl (Y.move rfl) ?_))))
          refine L.y rfl (Y.move rfl) ?_
          refine L.callJ (fun v D => ∃ (gx4 : Int), v = .int .i64 gx4 ∧ D = Cls w [] [.obj b7 [.int .i64 x6] 3, .obj b1 [u0_0, u0_2] 47] ∧ m22_order_Check_K6 gx2 go2 gx4 = some r) rfl en114 rfl Try.func114 rfl rfl rfl ?_ ?_
          ·
           refine W.seq (W.region (L.y rfl (Y.assign rfl) ?_))
           refine L.nil (E.thenN (W.seqJ (fun gs D => gs = [] ∧ D = Cls w [] [.obj b7 [.int .i64 x6] 3, .obj b1 [u0_0, u0_2] 47] ∧ m22_order_Check_K7 gx2 go2 = some r) ?_ ?_))
           ·
            refine W.seq (W.region (L.y rfl (Y.move rfl) ?_))
            refine L.y rfl (Y.lenMZ (row := TTale.rowv) (vs := q0_0) (l := a0.Tales) Try.underlying44 rfl (fun w' hw => hA0_0.cls0 hw)) ?_
            refine L.y rfl (Y.move rfl) ?_
            refine L.nil (E.thenN (W.block (W.loopJ (fun m gs D => ∃ (gx5 : Int), gs = [(0, u0_0), (1, .func (.func 66) #[] #[pt b7 0]), (7, .int .i64 (a0.Tales.length : Int)), (8, .int .i64 gx5)] ∧ D = Cls w [] [.obj b7 [.int .i64 x6] 3, .obj b1 [u0_0, u0_2] 47] ∧ m22_order_Check_L3 a0 x6 gx2 go2 m gx5 = some r) ⟨0, rfl, rfl, h⟩ ⟨rfl, rfl, rfl, rfl, trivial⟩ (fun _ hw => hw) ?_)))
            rintro m _ _ ⟨gx5, rfl, rfl, h⟩
            rcases m with _ | m
            · rw [m22_order_Check_L3] at h; cases h
            rw [m22_order_Check_L3] at h
            generalize hg3 : m22_order_Check_L3 a0 x6 gx2 go2 m = go3 at h
            rw [m22_order_Check_L3B] at h
            refine W.seq (W.region (L.ite h rfl (Y.lss rfl rfl) (fun c12 h => ?_) (fun c12 h => ?_)))
            ·
             refine L.nil (E.thenN (W.seq (W.condT rfl ?_)))
             refine W.skip (E.thenN (W.seq (W.block (W.seq (W.region (L.y rfl (Y.move rfl) ?_))))))
             refine L.y rfl (Y.assign rfl) ?_
             refine L.nil (E.thenN (W.seq (W.region (L.y rfl (Y.move rfl) ?_))))
             refine L.y rfl (Y.move rfl) ?_
             refine L.y rfl (Y.move rfl) ?_
             refine L.m (V := fun _ => el u0_0 (gx5.toNat * 2)) h rfl (Y.indexMZ (row := TTale.rowv) (vs := q0_0) (l := a0.Tales) Try.underlying44 sz101 rfl rfl (fun w' hw => hA0_0.cls0 hw)) (fun x13 ex13 h => ?_)
             refine L.y rfl (Y.loadEN (r := [.int .i64 x13.Tx, gv (q0_0 gx5.toNat) 0]) ag101 sz101 rfl (fun w' hw => hA0_0.cls0 hw) (zr_idx (vs := q0_0) ex13) rfl) ?_
             refine L.callVJ (fun v D => v = .bool (decide (x13.Tx = x6)) ∧ D = Cls w [] [.obj b7 [.int .i64 x6] 3, .obj b1 [u0_0, u0_2] 47] ∧ m22_order_Check_K8 x13 x6 gx2 go2 gx5 go3 = some r) rfl en66 rfl rfl Try.func66 rfl rfl rfl ?_ ?_
             ·
              refine W.seq (W.region (L.box rfl rfl ?_))
              intro b15
              refine L.y rfl (Y.assign rfl) ?_
              refine L.nil (E.thenN (W.seq (W.region (L.y rfl (Y.fieldP fd101_0 rfl) ?_))))
              refine L.y rfl (Y.loadP (i := 0) ag3 rfl rfl rfl) ?_
              refine L.y rfl (Y.loadP (i := 1) ag3 rfl rfl rfl) ?_
              refine L.y rfl (Y.eql rfl rfl) ?_
              refine L.y rfl (Y.assign rfl) ?_
              refine L.nil (E.thenN (W.ret (E.ret1 rfl rfl (fun w1 hw => ?_))))
              exact ⟨_, _, rfl, ⟨rfl, rfl, h⟩, hw.sel [1, 2] (by decide) rfl⟩
             ·
              rintro _ _ ⟨rfl, rfl, h⟩
              rw [m22_order_Check_K8] at h
              refine L.nil (E.thenN (W.caseB (q := 16) h rfl (fun h => ?_) (fun h => ?_)))
              ·
               refine W.condT rfl ?_
               refine W.seq (W.region (L.y rfl (Y.move rfl) ?_))
               refine L.y rfl (Y.assign rfl) ?_
               refine L.nil (E.thenN (W.ret (E.blockR (E.thenR (E.KLR (E.blockR (E.KSR (E.ret1 rfl rfl (fun w1 hw => ?_)))))))))
               exact ⟨_, _, rfl, ⟨gx5, rfl, rfl, h⟩, hw⟩
              ·
               refine W.condF rfl ?_
               refine W.skip (E.blockN (E.thenN (W.region (L.m (V := fun x14 => .int .i64 x14) h rfl (Y.addM rfl rfl) (fun x14 ex14 h => ?_)))))
               refine L.y rfl (Y.move rfl) ?_
               exact L.nil (E.againJ ⟨x14, rfl, rfl, by rw [hg3]; exact h⟩ (Nat.lt_succ_self _) ⟨rfl, rfl, rfl, rfl, trivial⟩ (fun _ hw => hw))
            ·
             refine L.nil (E.thenN (W.seq (W.condF rfl ?_)))
             exact W.exit (E.thenX (E.KLX (E.blockX (E.joinJ ⟨rfl, rfl, h⟩ trivial (fun _ hw => hw)))))
           ·
            rintro _ _ ⟨rfl, rfl, h⟩
            rw [m22_order_Check_K7] at h
            refine W.seq (W.region (L.y rfl (Y.assign rfl) ?_))
            refine L.nil (E.thenN (W.ret (E.ret1 rfl rfl (fun w1 hw => ?_))))
            exact ⟨_, _, rfl, ⟨(-1), rfl, rfl, h⟩, hw⟩
          ·
           rintro _ _ ⟨gx4, rfl, rfl, h⟩
           rw [m22_order_Check_K6] at h
           refine L.y rfl (Y.geq rfl rfl) ?_
           refine L.y rfl (Y.assign rfl) ?_
           refine L.nil (E.thenN (W.ret (E.ret1 rfl rfl (fun w1 hw => ?_))))
           exact ⟨_, _, rfl, ⟨decide (0 ≤ gx4), rfl, rfl, h⟩, hw⟩
         ·
          rintro _ _ ⟨gb3, rfl, rfl, h⟩
          rw [m22_order_Check_K5] at h
          rcases gb3 with _ | _
          ·
           replace h := iteF h
           refine L.nil (E.toV2 (stC [] [] (Cls w [] [.obj b7 [.int .i64 x6] 3, .obj b1 [u0_0, u0_2] 47])) 9 (by kernel_rfl) (Sc.stayD (fun _ hw => hw)) (Sc.atD (fun _ hw => hw)) ?_)
           refine V2.y (i := 10) (Nx2.of (Z := Cls w [] [.obj b7 [.int .i64 x6] 3, .obj b1 [u0_0, u0_2] 47]) [] (by kernel_rfl) rfl (Zc.fin (fun _ hw => hw))) rfl rfl rfl (Y.not rfl) ?_
           refine V2.y (i := 11) (Nx2.of (Z := Cls w [] [.obj b7 [.int .i64 x6] 3, .obj b1 [u0_0, u0_2] 47]) [] (by kernel_rfl) rfl (Zc.fin (fun _ hw => hw))) rfl rfl rfl (Y.pickF rfl rfl) ?_
           refine V2.done (by kernel_rfl) ?_
           refine E.thenN (W.condT rfl ?_)
           refine W.seq (W.region (L.y rfl (Y.assign rfl) ?_))
           refine L.nil (E.thenN (W.ret (E.blockR (E.thenR (E.KLR (E.blockR (E.blockR (E.KSR (E.KLR (E.blockR (E.KSR (E.ret1 rfl rfl (fun w1 hw => ?_)))))))))))))
           obtain rfl := Option.some.inj h
           exact ⟨_, _, rfl, ⟨rfl, rfl⟩, hw.sel [] (by decide) rfl⟩
          ·
           replace h := iteT h
           refine L.nil (E.toV2 (stC [] [] (Cls w [] [.obj b7 [.int .i64 x6] 3, .obj b1 [u0_0, u0_2] 47])) 9 (by kernel_rfl) (Sc.stayD (fun _ hw => hw)) (Sc.atD (fun _ hw => hw)) ?_)
           refine V2.y (i := 10) (Nx2.of (Z := Cls w [] [.obj b7 [.int .i64 x6] 3, .obj b1 [u0_0, u0_2] 47]) [] (by kernel_rfl) rfl (Zc.fin (fun _ hw => hw))) rfl rfl rfl (Y.not rfl) ?_
           refine V2.y (i := 11) (Nx2.of (Z := Cls w [] [.obj b7 [.int .i64 x6] 3, .obj b1 [u0_0, u0_2] 47]) [] (by kernel_rfl) rfl (Zc.fin (fun _ hw => hw))) rfl rfl rfl (Y.pickF rfl rfl) ?_
           refine V2.done (by kernel_rfl) ?_
           refine E.thenN (W.condF rfl ?_)
           refine W.skip (E.blockN (E.thenN (W.region (L.m (V := fun x11 => .int .i64 x11) h rfl (Y.addM rfl rfl) (fun x11 ex11 h => ?_)))))
           refine L.y rfl (Y.move rfl) ?_
           exact L.nil (E.againJ ⟨x11, rfl, rfl, by rw [hg2]; exact h⟩ (Nat.lt_succ_self _) ⟨rfl, rfl, rfl, rfl, rfl, rfl, rfl, rfl, trivial⟩ (fun _ hw => hw.sel [1] (by decide) rfl))
        ·
         replace h := iteT h
         refine L.nil (E.toV2 (stC [] [] (Cls w [] [.obj b7 [.int .i64 x6] 3, .obj b1 [u0_0, u0_2] 47])) 4 (by kernel_rfl) (Sc.stayD (fun _ hw => hw)) (Sc.atD (fun _ hw => hw)) ?_)
         refine V2.y (i := 5) (Nx2.of (Z := Cls w [] [.obj b7 [.int .i64 x6] 3, .obj b1 [u0_0, u0_2] 47]) [] (by kernel_rfl) rfl (Zc.fin (fun _ hw => hw))) rfl rfl rfl (Y.move rfl) ?_
         refine V2.pass (i := 6) (Nx2.of (Z := Cls w [] [.obj b7 [.int .i64 x6] 3, .obj b1 [u0_0, u0_2] 47]) [] (by kernel_rfl) rfl (Zc.fin (fun _ hw => hw))) rfl rfl ?_
         refine V2.pass (i := 7) (Nx2.of (Z := Cls w [] [.obj b7 [.int .i64 x6] 3, .obj b1 [u0_0, u0_2] 47]) [] (by kernel_rfl) rfl (Zc.fin (fun _ hw => hw))) rfl rfl ?_
         refine V2.pass (i := 8) (Nx2.of (Z := Cls w [] [.obj b7 [.int .i64 x6] 3, .obj b1 [u0_0, u0_2] 47]) [] (by kernel_rfl) rfl (Zc.fin (fun _ hw => hw))) rfl rfl ?_
         refine V2.pass (i := 9) (Nx2.of (Z := Cls w [] [.obj b7 [.int .i64 x6] 3, .obj b1 [u0_0, u0_2] 47]) [] (by kernel_rfl) rfl (Zc.fin (fun _ hw => hw))) rfl rfl ?_
         refine V2.pass (i := 10) (Nx2.of (Z := Cls w [] [.obj b7 [.int .i64 x6] 3, .obj b1 [u0_0, u0_2] 47]) [] (by kernel_rfl) rfl (Zc.fin (fun _ hw => hw))) rfl rfl ?_
         refine V2.y (i := 11) (Nx2.of (Z := Cls w [] [.obj b7 [.int .i64 x6] 3, .obj b1 [u0_0, u0_2] 47]) [] (by kernel_rfl) rfl (Zc.fin (fun _ hw => hw))) rfl rfl rfl (Y.pickT rfl rfl) ?_
         refine V2.done (by kernel_rfl) ?_
         refine E.thenN (W.condT rfl ?_)
         refine W.seq (W.region (L.y rfl (Y.assign rfl) ?_))
         refine L.nil (E.thenN (W.ret (E.blockR (E.thenR (E.KLR (E.blockR (E.blockR (E.KSR (E.KLR (E.blockR (E.KSR (E.ret1 rfl rfl (fun w1 hw => ?_)))))))))))))
         obtain rfl := Option.some.inj h
         exact ⟨_, _, rfl, ⟨rfl, rfl⟩, hw.sel [] (by decide) rfl⟩
       ·
        refine L.nil (E.thenN (W.seq (W.condF rfl ?_)))
        exact W.exit (E.thenX (E.KLX (E.blockX (E.blockN (E.joinJ ⟨rfl, rfl, h⟩ ⟨rfl, rfl, rfl, rfl, trivial⟩ (fun _ hw => hw))))))
      ·
       rintro _ _ ⟨rfl, rfl, h⟩
       rw [m22_order_Check_K4] at h
       refine W.region (L.m (V := fun x3 => .int .i64 x3) h rfl (Y.addM rfl rfl) (fun x3 ex3 h => ?_))
       refine L.y rfl (Y.move rfl) ?_
       exact L.nil (E.againJ ⟨x3, rfl, rfl, by rw [hg1]; exact h⟩ (Nat.lt_succ_self _) ⟨rfl, rfl, rfl, rfl, trivial⟩ (fun _ hw => hw))
     ·
      refine L.nil (E.thenN (W.seq (W.condF rfl ?_)))
      exact W.exit (E.thenX (E.KLX (E.blockX (E.joinJ ⟨rfl, rfl, h⟩ trivial (fun _ hw => hw.sel [] (by decide) rfl)))))
    ·
     rintro _ _ ⟨rfl, rfl, h⟩
     rw [m22_order_Check_K3] at h
     refine W.seq (W.region (L.y rfl (Y.assign rfl) ?_))
     refine L.nil (E.thenN (W.ret (E.ret1 rfl rfl (fun w1 hw => ?_))))
     obtain rfl := Option.some.inj h
     exact ⟨_, _, rfl, ⟨rfl, rfl⟩, hw⟩
set_option maxRecDepth 100000 in
set_option maxHeartbeats 8000000 in
theorem w117_cmp_isNaN_int (a0 : Int) (w : World) (r : Bool) (h : m117_cmp_isNaN_int a0 = some r) : Does Try.prog 117 [.int .i64 a0] w fun u m => u = .bool r ∧ m = [] := by
  rw [m117_cmp_isNaN_int] at h
  refine body (n := 6) Try.func117 rfl rfl rfl (Cls.refl w) ?_
  refine W.seq (W.region (L.y rfl (Y.assign rfl) ?_))
  refine L.nil (E.thenN (W.seq (W.region (L.y rfl (Y.move rfl) ?_))))
  refine L.y rfl (Y.move rfl) ?_
  refine L.y rfl (Y.neq rfl rfl) ?_
  refine L.y rfl (Y.assign rfl) ?_
  refine L.nil (E.thenN (W.ret (E.ret1 rfl rfl (fun w1 hw => ?_))))
  obtain rfl := Option.some.inj h
  exact ⟨_, _, rfl, ⟨rfl, rfl⟩, hw⟩
set_option maxRecDepth 100000 in
set_option maxHeartbeats 8000000 in
theorem w61_cmp_Compare_int (a0 : Int) (a1 : Int) (w : World) (r : Int) (h : m61_cmp_Compare_int a0 a1 = some r) : Does Try.prog 61 [.int .i64 a0, .int .i64 a1] w fun u m => u = .int .i64 r ∧ m = [] := by
  rw [m61_cmp_Compare_int] at h
  refine body (n := 20) Try.func61 rfl rfl rfl (Cls.refl w) ?_
  refine W.seq (W.region (L.y rfl (Y.assign rfl) ?_))
  refine L.nil (E.thenN (W.seqJ (fun gs D => ∃ (gb1 : Bool), gs = [(0, .int .i64 a0), (1, .int .i64 a1), (5, .bool gb1)] ∧ D = Cls w [] [] ∧ m61_cmp_Compare_int_K1 a1 a0 gb1 = some r) ?_ ?_))
  ·
   refine W.region (L.y rfl (Y.move rfl) ?_)
   obtain ⟨b7, e8, h⟩ := bind1S h
   refine L.y rfl (Y.does en117 rfl (fun w' hw => (w117_cmp_isNaN_int a0 w' _ e8).mono (fun _ _ h => h.1))) ?_
   rcases b7 with _ | _
   ·
    replace h := iteF h
    refine L.y rfl (Y.assign rfl) ?_
    exact L.nil (E.joinJ ⟨false, rfl, rfl, h⟩ ⟨rfl, rfl, rfl, trivial⟩ (fun _ hw => hw))
   ·
    replace h := iteT h
    refine L.y rfl (Y.assign rfl) ?_
    exact L.nil (E.joinJ ⟨true, rfl, rfl, h⟩ ⟨rfl, rfl, rfl, trivial⟩ (fun _ hw => hw))
  ·
   rintro _ _ ⟨gb1, rfl, rfl, h⟩
   rw [m61_cmp_Compare_int_K1] at h
   rcases gb1 with _ | _
   ·
    replace h := iteF h
    refine W.seq (W.region (L.y rfl (Y.move rfl) ?_))
    obtain ⟨b1, e2, h⟩ := bind1S h
    refine L.y rfl (Y.does en117 rfl (fun w' hw => (w117_cmp_isNaN_int a1 w' _ e2).mono (fun _ _ h => h.1))) ?_
    rcases b1 with _ | _
    ·
     replace h := iteF h
     refine L.y rfl (Y.assign rfl) ?_
     refine L.nil (E.thenN (W.seq (W.seq (W.region (L.y rfl (Y.move rfl) ?_)))))
     refine L.nil (E.thenN (W.condF rfl ?_))
     refine W.skip (E.thenN (W.seq (W.seq (W.region (L.y rfl (Y.move rfl) ?_)))))
     refine L.nil (E.thenN (W.condF rfl ?_))
     refine W.skip (E.thenN (W.seq (W.seq (W.region (L.y rfl (Y.move rfl) ?_)))))
     refine L.y rfl (Y.move rfl) ?_
     refine L.ite h rfl (Y.lss rfl rfl) (fun c3 h => ?_) (fun c3 h => ?_)
     ·
      refine L.nil (E.thenN (W.condT rfl ?_))
      refine W.seq (W.region (L.y rfl (Y.assign rfl) ?_))
      refine L.nil (E.thenN (W.ret (E.thenR (E.ret1 rfl rfl (fun w1 hw => ?_)))))
      obtain rfl := Option.some.inj h
      exact ⟨_, _, rfl, ⟨rfl, rfl⟩, hw⟩
     ·
      refine L.nil (E.thenN (W.condF rfl ?_))
      refine W.skip (E.thenN (W.seq (W.seq (W.region (L.y rfl (Y.move rfl) ?_)))))
      refine L.y rfl (Y.move rfl) ?_
      refine L.ite h rfl (Y.gtr rfl rfl) (fun c4 h => ?_) (fun c4 h => ?_)
      ·
       refine L.nil (E.thenN (W.condT rfl ?_))
       refine W.seq (W.region (L.y rfl (Y.assign rfl) ?_))
       refine L.nil (E.thenN (W.ret (E.thenR (E.ret1 rfl rfl (fun w1 hw => ?_)))))
       obtain rfl := Option.some.inj h
       exact ⟨_, _, rfl, ⟨rfl, rfl⟩, hw⟩
      ·
       refine L.nil (E.thenN (W.condF rfl ?_))
       refine W.skip (E.thenN (W.seq (W.region (L.y rfl (Y.assign rfl) ?_))))
       refine L.nil (E.thenN (W.ret (E.ret1 rfl rfl (fun w1 hw => ?_))))
       obtain rfl := Option.some.inj h
       exact ⟨_, _, rfl, ⟨rfl, rfl⟩, hw⟩
    ·
     replace h := iteT h
     refine L.y rfl (Y.assign rfl) ?_
     refine L.nil (E.thenN (W.seq (W.seq (W.region (L.y rfl (Y.move rfl) ?_)))))
     refine L.nil (E.thenN (W.condF rfl ?_))
     refine W.skip (E.thenN (W.seq (W.seq (W.region (L.y rfl (Y.move rfl) ?_)))))
     refine L.nil (E.thenN (W.condT rfl ?_))
     refine W.seq (W.region (L.y rfl (Y.assign rfl) ?_))
     refine L.nil (E.thenN (W.ret (E.thenR (E.ret1 rfl rfl (fun w1 hw => ?_)))))
     obtain rfl := Option.some.inj h
     exact ⟨_, _, rfl, ⟨rfl, rfl⟩, hw⟩
   ·
    replace h := iteT h
    refine W.seq (W.region (L.y rfl (Y.move rfl) ?_))
    obtain ⟨b5, e6, h⟩ := bind1S h
    refine L.y rfl (Y.does en117 rfl (fun w' hw => (w117_cmp_isNaN_int a1 w' _ e6).mono (fun _ _ h => h.1))) ?_
    rcases b5 with _ | _
    ·
     replace h := iteF h
     refine L.y rfl (Y.assign rfl) ?_
     refine L.nil (E.thenN (W.seq (W.seq (W.region (L.y rfl (Y.move rfl) ?_)))))
     refine L.nil (E.thenN (W.condT rfl ?_))
     refine W.seq (W.seq (W.region (L.y rfl (Y.move rfl) ?_)))
     refine L.nil (E.thenN (W.condF rfl ?_))
     refine W.skip (E.thenN (W.seq (W.region (L.y rfl (Y.assign rfl) ?_))))
     refine L.nil (E.thenN (W.ret (E.thenR (E.ret1 rfl rfl (fun w1 hw => ?_)))))
     obtain rfl := Option.some.inj h
     exact ⟨_, _, rfl, ⟨rfl, rfl⟩, hw⟩
    ·
     replace h := iteT h
     refine L.y rfl (Y.assign rfl) ?_
     refine L.nil (E.thenN (W.seq (W.seq (W.region (L.y rfl (Y.move rfl) ?_)))))
     refine L.nil (E.thenN (W.condT rfl ?_))
     refine W.seq (W.seq (W.region (L.y rfl (Y.move rfl) ?_)))
     refine L.nil (E.thenN (W.condT rfl ?_))
     refine W.seq (W.region (L.y rfl (Y.assign rfl) ?_))
     refine L.nil (E.thenN (W.ret (E.thenR (E.thenR (E.ret1 rfl rfl (fun w1 hw => ?_))))))
     obtain rfl := Option.some.inj h
     exact ⟨_, _, rfl, ⟨rfl, rfl⟩, hw⟩
set_option maxRecDepth 100000 in
set_option maxHeartbeats 8000000 in
theorem w60_cmp_Or_int (a0 : (List Int)) (u0 : Value) (w : World) (r : Int) (h : m60_cmp_Or_int a0 = some r) (hA0 : At w u0 1 (a0.map I)) : Does Try.prog 60 [u0] w fun u m => u = .int .i64 r ∧ m = [] := by
  rw [m60_cmp_Or_int] at h
  refine body (n := 18) Try.func60 rfl rfl rfl (Cls.refl w) ?_
  refine W.seq (W.region (L.y rfl (Y.assign rfl) ?_))
  refine L.nil (E.thenN (W.seq (W.region (L.y rfl (Y.assign rfl) ?_))))
  refine L.nil (E.thenN (W.seqJ (fun gs D => gs = [(3, .int .i64 0)] ∧ D = Cls w [] [] ∧ m60_cmp_Or_int_K1 = some r) ?_ ?_))
  ·
   refine W.seq (W.region (L.y rfl (Y.move rfl) ?_))
   refine L.y rfl (Y.lenM (g := I) (l := a0) Try.underlying28 rfl (fun w' hw => hA0.cls0 hw)) ?_
   refine L.y rfl (Y.move rfl) ?_
   refine L.nil (E.thenN (W.block (W.loopJ (fun m gs D => ∃ (gx1 : Int), gs = [(3, .int .i64 0), (6, u0), (7, .int .i64 (a0.length : Int)), (8, .int .i64 gx1)] ∧ D = Cls w [] [] ∧ m60_cmp_Or_int_L1 a0 m gx1 = some r) ⟨0, rfl, rfl, h⟩ ⟨rfl, rfl, rfl, rfl, trivial⟩ (fun _ hw => hw) ?_)))
   rintro m _ _ ⟨gx1, rfl, rfl, h⟩
   rcases m with _ | m
   · rw [m60_cmp_Or_int_L1] at h; cases h
   rw [m60_cmp_Or_int_L1] at h
   generalize hg1 : m60_cmp_Or_int_L1 a0 m = go1 at h
   rw [m60_cmp_Or_int_L1B] at h
   refine W.seq (W.region (L.ite h rfl (Y.lss rfl rfl) (fun c1 h => ?_) (fun c1 h => ?_)))
   ·
    refine L.nil (E.thenN (W.seq (W.condT rfl ?_)))
    refine W.skip (E.thenN (W.seq (W.block (W.seq (W.region (L.m (V := fun _ => el u0 (gx1.toNat * 1)) h rfl (Y.indexM (g := I) (l := a0) Try.underlying28 sz3 rfl rfl (fun w' hw => hA0.cls0 hw)) (fun x2 ex2 h => ?_)))))))
    refine L.y rfl (Y.loadE1 (u := .int .i64 x2) ag3 rfl (fun w' hw => hA0.cls0 hw) (idx_map ex2)) ?_
    refine L.y rfl (Y.assign rfl) ?_
    refine L.nil (E.thenN (W.seq (W.region (L.y rfl (Y.move rfl) ?_))))
    refine L.y rfl (Y.move rfl) ?_
    refine L.ite h rfl (Y.neq rfl rfl) (fun c3 h => ?_) (fun c3 h => ?_)
    ·
     refine L.nil (E.thenN (W.condT rfl ?_))
     refine W.seq (W.region (L.y rfl (Y.move rfl) ?_))
     refine L.y rfl (Y.assign rfl) ?_
     refine L.nil (E.thenN (W.ret (E.blockR (E.thenR (E.KLR (E.blockR (E.KSR (E.ret1 rfl rfl (fun w1 hw => ?_)))))))))
     obtain rfl := Option.some.inj h
     exact ⟨_, _, rfl, ⟨rfl, rfl⟩, hw⟩
    ·
     refine L.nil (E.thenN (W.condF rfl ?_))
     refine W.skip (E.blockN (E.thenN (W.region (L.m (V := fun x4 => .int .i64 x4) h rfl (Y.addM rfl rfl) (fun x4 ex4 h => ?_)))))
     refine L.y rfl (Y.move rfl) ?_
     exact L.nil (E.againJ ⟨x4, rfl, rfl, by rw [hg1]; exact h⟩ (Nat.lt_succ_self _) ⟨rfl, rfl, rfl, rfl, trivial⟩ (fun _ hw => hw))
   ·
    refine L.nil (E.thenN (W.seq (W.condF rfl ?_)))
    exact W.exit (E.thenX (E.KLX (E.blockX (E.joinJ ⟨rfl, rfl, h⟩ ⟨rfl, trivial⟩ (fun _ hw => hw)))))
  ·
   rintro _ _ ⟨rfl, rfl, h⟩
   rw [m60_cmp_Or_int_K1] at h
   refine W.seq (W.region (L.y rfl (Y.move rfl) ?_))
   refine L.y rfl (Y.assign rfl) ?_
   refine L.nil (E.thenN (W.ret (E.ret1 rfl rfl (fun w1 hw => ?_))))
   obtain rfl := Option.some.inj h
   exact ⟨_, _, rfl, ⟨rfl, rfl⟩, hw⟩
set_option maxRecDepth 100000 in
set_option maxHeartbeats 8000000 in
theorem w59_order_Deps_2 (a0 : TDep) (a1 : TDep) (w : World) (r : Int) (h : m59_order_Deps_2 a0 a1 = some r) : Does Try.prog 59 [.agg #[.int .i64 a0.From, .int .i64 a0.To, .int .i64 a0.Kind], .agg #[.int .i64 a1.From, .int .i64 a1.To, .int .i64 a1.Kind]] w fun u m => u = .int .i64 r ∧ m = [] := by
  rw [m59_order_Deps_2] at h
  refine body (n := 22) Try.func59 rfl rfl rfl (Cls.refl w) ?_
  refine W.seq (W.region (L.box rfl rfl ?_))
  intro b1
  refine L.box rfl rfl ?_
  intro b2
  refine L.y rfl (Y.assign rfl) ?_
  refine L.nil (E.thenN (W.seq (W.drawn2 (k := 18) (stC [] [] (Cls w [] [.obj b2 [.int .i64 a1.From, .int .i64 a1.To, .int .i64 a1.Kind] 60, .obj b1 [.int .i64 a0.From, .int .i64 a0.To, .int .i64 a0.Kind] 60])) rfl mixed (fun _ hw => hw.drew) (Sc.atD (fun _ hw => hw)) ?_)))
  refine V2.y (i := 0) (Nx2.of (Z := Cls w [] [.obj b2 [.int .i64 a1.From, .int .i64 a1.To, .int .i64 a1.Kind] 60, .obj b1 [.int .i64 a0.From, .int .i64 a0.To, .int .i64 a0.Kind] 60]) [] (by kernel_rfl) rfl (Zc.fin (fun _ hw => hw))) rfl rfl rfl (Y.fieldP fd60_0 rfl) ?_
  refine V2.y (i := 1) (Nx2.of (Z := Cls w [] [.obj b2 [.int .i64 a1.From, .int .i64 a1.To, .int .i64 a1.Kind] 60, .obj b1 [.int .i64 a0.From, .int .i64 a0.To, .int .i64 a0.Kind] 60]) [] (by kernel_rfl) rfl (Zc.fin (fun _ hw => hw))) rfl rfl rfl (Y.loadP (i := 1) ag3 rfl rfl rfl) ?_
  refine V2.y (i := 2) (Nx2.of (Z := Cls w [] [.obj b2 [.int .i64 a1.From, .int .i64 a1.To, .int .i64 a1.Kind] 60, .obj b1 [.int .i64 a0.From, .int .i64 a0.To, .int .i64 a0.Kind] 60]) [] (by kernel_rfl) rfl (Zc.fin (fun _ hw => hw))) rfl rfl rfl (Y.fieldP fd60_0 rfl) ?_
  refine V2.y (i := 3) (Nx2.of (Z := Cls w [] [.obj b2 [.int .i64 a1.From, .int .i64 a1.To, .int .i64 a1.Kind] 60, .obj b1 [.int .i64 a0.From, .int .i64 a0.To, .int .i64 a0.Kind] 60]) [] (by kernel_rfl) rfl (Zc.fin (fun _ hw => hw))) rfl rfl rfl (Y.loadP (i := 0) ag3 rfl rfl rfl) ?_
  refine V2.y (i := 5) (Nx2.of (Z := Cls w [] [.obj b2 [.int .i64 a1.From, .int .i64 a1.To, .int .i64 a1.Kind] 60, .obj b1 [.int .i64 a0.From, .int .i64 a0.To, .int .i64 a0.Kind] 60]) [] (by kernel_rfl) rfl (Zc.fin (fun _ hw => hw))) rfl rfl rfl (Y.fieldP fd60_1 rfl) ?_
  refine V2.y (i := 6) (Nx2.of (Z := Cls w [] [.obj b2 [.int .i64 a1.From, .int .i64 a1.To, .int .i64 a1.Kind] 60, .obj b1 [.int .i64 a0.From, .int .i64 a0.To, .int .i64 a0.Kind] 60]) [] (by kernel_rfl) rfl (Zc.fin (fun _ hw => hw))) rfl rfl rfl (Y.loadP (i := 1) ag3 rfl rfl rfl) ?_
  refine V2.y (i := 7) (Nx2.of (Z := Cls w [] [.obj b2 [.int .i64 a1.From, .int .i64 a1.To, .int .i64 a1.Kind] 60, .obj b1 [.int .i64 a0.From, .int .i64 a0.To, .int .i64 a0.Kind] 60]) [] (by kernel_rfl) rfl (Zc.fin (fun _ hw => hw))) rfl rfl rfl (Y.fieldP fd60_1 rfl) ?_
  refine V2.y (i := 8) (Nx2.of (Z := Cls w [] [.obj b2 [.int .i64 a1.From, .int .i64 a1.To, .int .i64 a1.Kind] 60, .obj b1 [.int .i64 a0.From, .int .i64 a0.To, .int .i64 a0.Kind] 60]) [] (by kernel_rfl) rfl (Zc.fin (fun _ hw => hw))) rfl rfl rfl (Y.loadP (i := 0) ag3 rfl rfl rfl) ?_
  refine V2.y (i := 10) (Nx2.of (Z := Cls w [] [.obj b2 [.int .i64 a1.From, .int .i64 a1.To, .int .i64 a1.Kind] 60, .obj b1 [.int .i64 a0.From, .int .i64 a0.To, .int .i64 a0.Kind] 60]) [] (by kernel_rfl) rfl (Zc.fin (fun _ hw => hw))) rfl rfl rfl (Y.fieldP fd60_2 rfl) ?_
  refine V2.y (i := 11) (Nx2.of (Z := Cls w [] [.obj b2 [.int .i64 a1.From, .int .i64 a1.To, .int .i64 a1.Kind] 60, .obj b1 [.int .i64 a0.From, .int .i64 a0.To, .int .i64 a0.Kind] 60]) [] (by kernel_rfl) rfl (Zc.fin (fun _ hw => hw))) rfl rfl rfl (Y.loadP (i := 1) ag3 rfl rfl rfl) ?_
  refine V2.y (i := 12) (Nx2.of (Z := Cls w [] [.obj b2 [.int .i64 a1.From, .int .i64 a1.To, .int .i64 a1.Kind] 60, .obj b1 [.int .i64 a0.From, .int .i64 a0.To, .int .i64 a0.Kind] 60]) [] (by kernel_rfl) rfl (Zc.fin (fun _ hw => hw))) rfl rfl rfl (Y.fieldP fd60_2 rfl) ?_
  refine V2.y (i := 13) (Nx2.of (Z := Cls w [] [.obj b2 [.int .i64 a1.From, .int .i64 a1.To, .int .i64 a1.Kind] 60, .obj b1 [.int .i64 a0.From, .int .i64 a0.To, .int .i64 a0.Kind] 60]) [] (by kernel_rfl) rfl (Zc.fin (fun _ hw => hw))) rfl rfl rfl (Y.loadP (i := 0) ag3 rfl rfl rfl) ?_
  refine V2.eff (i := 4) (by kernel_rfl) rfl ?_
  obtain ⟨x3, e4, h⟩ := bind1S h
  refine L.y rfl (Y.does en61 rfl (fun w' hw => (w61_cmp_Compare_int a0.From a1.From w' _ e4).mono (fun _ _ h => h.1))) ?_
  refine L.nil (E.toV2 (stC [] [] (Cls w [] [.obj b2 [.int .i64 a1.From, .int .i64 a1.To, .int .i64 a1.Kind] 60, .obj b1 [.int .i64 a0.From, .int .i64 a0.To, .int .i64 a0.Kind] 60])) 4 (by kernel_rfl) (Sc.stayD (fun _ hw => hw)) (Sc.atD (fun _ hw => hw)) ?_)
  refine V2.eff (i := 9) (by kernel_rfl) rfl ?_
  obtain ⟨x5, e6, h⟩ := bind1S h
  refine L.y rfl (Y.does en61 rfl (fun w' hw => (w61_cmp_Compare_int a0.To a1.To w' _ e6).mono (fun _ _ h => h.1))) ?_
  refine L.nil (E.toV2 (stC [] [] (Cls w [] [.obj b2 [.int .i64 a1.From, .int .i64 a1.To, .int .i64 a1.Kind] 60, .obj b1 [.int .i64 a0.From, .int .i64 a0.To, .int .i64 a0.Kind] 60])) 9 (by kernel_rfl) (Sc.stayD (fun _ hw => hw)) (Sc.atD (fun _ hw => hw)) ?_)
  refine V2.eff (i := 14) (by kernel_rfl) rfl ?_
  obtain ⟨x7, e8, h⟩ := bind1S h
  refine L.y rfl (Y.does en61 rfl (fun w' hw => (w61_cmp_Compare_int a0.Kind a1.Kind w' _ e8).mono (fun _ _ h => h.1))) ?_
  refine L.nil (E.toV2 (stC [] [] (Cls w [] [.obj b2 [.int .i64 a1.From, .int .i64 a1.To, .int .i64 a1.Kind] 60, .obj b1 [.int .i64 a0.From, .int .i64 a0.To, .int .i64 a0.Kind] 60])) 14 (by kernel_rfl) (Sc.stayD (fun _ hw => hw)) (Sc.atD (fun _ hw => hw)) ?_)
  refine V2.eff (i := 15) (by kernel_rfl) rfl ?_
  refine L.lit (xs := [.tmp 9, .tmp 14, .tmp 19]) rfl Try.underlying28 el3 rfl rfl rfl rfl (by simp [Value.cells, st]) ?_
  intro b9
  refine L.nil (E.toV2 (stC [] [] (Cls w [] [.sl (sv b9 3) 3 1 (([x3, x5, x7]).map I), .obj b2 [.int .i64 a1.From, .int .i64 a1.To, .int .i64 a1.Kind] 60, .obj b1 [.int .i64 a0.From, .int .i64 a0.To, .int .i64 a0.Kind] 60])) 15 (by kernel_rfl) (Sc.stayD (fun _ hw => hw.sel [1, 2] (by decide) rfl)) (Sc.atD (fun _ hw => hw)) ?_)
  refine V2.eff (i := 16) (by kernel_rfl) rfl ?_
  obtain ⟨x10, e11, h⟩ := bind1S h
  refine L.y rfl (Y.does en60 rfl (fun w' hw => (w60_cmp_Or_int ([x3, x5, x7]) (sv b9 3) w' _ e11 (As.at_ (hw.get (i := 0) rfl))).mono (fun _ _ h => h.1))) ?_
  refine L.nil (E.toV2 (stC [] [] (Cls w [] [.sl (sv b9 3) 3 1 (([x3, x5, x7]).map I), .obj b2 [.int .i64 a1.From, .int .i64 a1.To, .int .i64 a1.Kind] 60, .obj b1 [.int .i64 a0.From, .int .i64 a0.To, .int .i64 a0.Kind] 60])) 16 (by kernel_rfl) (Sc.stayD (fun _ hw => hw)) (Sc.atD (fun _ hw => hw)) ?_)
  refine V2.y (i := 17) (Nx2.of (Z := Cls w [] [.sl (sv b9 3) 3 1 (([x3, x5, x7]).map I), .obj b2 [.int .i64 a1.From, .int .i64 a1.To, .int .i64 a1.Kind] 60, .obj b1 [.int .i64 a0.From, .int .i64 a0.To, .int .i64 a0.Kind] 60]) [] (by kernel_rfl) rfl (Zc.fin (fun _ hw => hw))) rfl rfl rfl (Y.assign rfl) ?_
  refine V2.done (by kernel_rfl) ?_
  refine E.thenN (W.ret (E.ret1 rfl rfl (fun w1 hw => ?_)))
  obtain rfl := Option.some.inj h
  exact ⟨_, _, rfl, ⟨rfl, rfl⟩, hw.sel [] (by decide) rfl⟩
set_option maxRecDepth 100000 in
set_option maxHeartbeats 8000000 in
theorem w19_order_Deps (a0 : TStory) (u0_0 : Value) (q0_0 : Nat → List Value) (u0_2 : Value) (q0_2 : Nat → List Value) (w : World) (r : ((List TDep) × Int)) (h : m19_order_Deps a0 = some r) (hA0_0 : At w u0_0 2 (zr TTale.rowv q0_0 a0.Tales)) (hD0_0 : ∀ d ∈ zs TTale.sds q0_0 a0.Tales, At w d.v d.k d.rows) (hA0_2 : At w u0_2 1 (zr svRow q0_2 a0.Versions)) (hD0_2 : ∀ d ∈ zs (svSd 3 1 I) q0_2 a0.Versions, At w d.v d.k d.rows) : Does Try.prog 19 [.agg #[u0_0, u0_2]] w fun u m => ∃ v0, u = .tuple #[v0, .int .i64 r.2] ∧ m = [.sl v0 60 3 (r.1.map TDep.row)] := by
  rw [m19_order_Deps] at h
  refine body (n := 96) Try.func19 rfl rfl rfl (Cls.refl w) ?_
  refine W.seq (W.region (L.box rfl rfl ?_))
  intro b1
  refine L.y rfl (Y.assign rfl) ?_
  refine L.y rfl (Y.assign rfl) ?_
  refine L.nil (E.thenN (W.seqJ (fun gs D => gs = [(1, pt b1 0)] ∧ D = Cls w [] [.obj b1 [u0_0, u0_2] 47] ∧ m19_order_Deps_K1 a0 = some r) ?_ ?_))
  ·
   refine W.seq (W.region (L.y rfl (Y.loadPW (i := 0) ag47 sz47 rfl rfl rfl) ?_))
   obtain ⟨x75, e76, h⟩ := bind1S h
   refine L.y rfl (Y.does en22 rfl (fun w' hw => (w22_order_Check a0 u0_0 q0_0 u0_2 q0_2 w' _ e76 (hA0_0.cls0 hw) (fun d hd => (hD0_0 d hd).cls0 hw) (hA0_2.cls0 hw) (fun d hd => (hD0_2 d hd).cls0 hw)).mono (fun _ _ h => h.1))) ?_
   refine L.y rfl (Y.assign rfl) ?_
   refine L.nil (E.thenN (W.seq (W.region (L.y rfl (Y.move rfl) ?_))))
   refine L.ite h rfl (Y.neq rfl rfl) (fun c77 h => ?_) (fun c77 h => ?_)
   ·
    refine L.nil (E.thenN (W.condT rfl ?_))
    refine W.seq (W.region (L.y rfl (Y.move rfl) ?_))
    refine L.y rfl (Y.assign rfl) ?_
    refine L.y rfl (Y.assign rfl) ?_
    refine L.nil (E.thenN (W.ret (E.KSR (E.ret2 rfl rfl rfl (fun w1 hw => ?_)))))
    obtain rfl := Option.some.inj h
    exact ⟨_, _, rfl, ⟨_, rfl, rfl⟩, (hw.nilSl 60 3).sel [0] (by decide) rfl⟩
   ·
    refine L.nil (E.thenN (W.condF rfl ?_))
    exact W.skip (E.joinJ ⟨rfl, rfl, h⟩ ⟨rfl, trivial⟩ (fun _ hw => hw))
  ·
   rintro _ _ ⟨rfl, rfl, h⟩
   rw [m19_order_Deps_K1] at h
   refine W.seq (W.region (L.alloc rfl ze49 ?_))
   intro b2
   refine L.nil (E.thenN (W.seq (W.region (L.y rfl (Y.func rfl) ?_))))
   refine L.y rfl (Y.assign rfl) ?_
   refine L.nil (E.thenN (W.seqJ (fun gs D => ∃ (gv1 : Value) (gl2 : (List TDep)), gs = [(1, pt b1 0), (5, pt b2 0), (6, .func (.func 57) #[] #[pt b2 0])] ∧ D = Cls w [] [.obj b2 [gv1] 49, .obj b1 [u0_0, u0_2] 47, .sl gv1 60 3 (gl2.map TDep.row)] ∧ m19_order_Deps_K2 a0 gl2 = some r) ?_ ?_))
   ·
    refine W.seq (W.region (L.y rfl (Y.fieldP fd47_1 rfl) ?_))
    refine L.y rfl (Y.loadP (i := 1) ag45 rfl rfl rfl) ?_
    refine L.y rfl (Y.lenMZ (row := svRow) (vs := q0_2) (l := a0.Versions) Try.underlying45 rfl (fun w' hw => hA0_2.cls0 hw)) ?_
    refine L.y rfl (Y.move rfl) ?_
    refine L.nil (E.thenN (W.block (W.nilSl 60 3 ?_)))
    refine W.loopJ (fun m gs D => ∃ (gx29 : Int) (gv30 : Value) (gl31 : (List TDep)), gs = [(1, pt b1 0), (5, pt b2 0), (6, .func (.func 57) #[] #[pt b2 0]), (23, u0_2), (24, .int .i64 (a0.Versions.length : Int)), (25, .int .i64 gx29)] ∧ D = Cls w [] [.obj b2 [gv30] 49, .obj b1 [u0_0, u0_2] 47, .sl gv30 60 3 (gl31.map TDep.row)] ∧ m19_order_Deps_L5 a0 m gx29 gl31 = some r) ⟨0, .slice none 0 0, [], rfl, rfl, h⟩ ⟨rfl, rfl, rfl, rfl, rfl, rfl, trivial⟩ (fun _ hw => hw.sel [1, 2, 0] (by decide) rfl) ?_
    rintro m _ _ ⟨gx29, gv30, gl31, rfl, rfl, h⟩
    rcases m with _ | m
    · rw [m19_order_Deps_L5] at h; cases h
    rw [m19_order_Deps_L5] at h
    generalize hg5 : m19_order_Deps_L5 a0 m = go5 at h
    rw [m19_order_Deps_L5B] at h
    refine W.seq (W.region (L.ite h rfl (Y.lss rfl rfl) (fun c56 h => ?_) (fun c56 h => ?_)))
    ·
     refine L.nil (E.thenN (W.seq (W.condT rfl ?_)))
     refine W.skip (E.thenN (W.seqJ (fun gs D => ∃ (gv32 : Value) (gl33 : (List TDep)), gs = [(1, pt b1 0), (5, pt b2 0), (6, .func (.func 57) #[] #[pt b2 0]), (23, u0_2), (24, .int .i64 (a0.Versions.length : Int)), (25, .int .i64 gx29)] ∧ D = Cls w [] [.obj b2 [gv32] 49, .obj b1 [u0_0, u0_2] 47, .sl gv32 60 3 (gl33.map TDep.row)] ∧ m19_order_Deps_K14 gx29 go5 gl33 = some r) ?_ ?_))
     ·
      refine W.block (W.seq (W.region (L.m (V := fun _ => el u0_2 (gx29.toNat * 1)) h rfl (Y.indexMZ (row := svRow) (vs := q0_2) (l := a0.Versions) Try.underlying45 sz28 rfl rfl (fun w' hw => hA0_2.cls0 hw)) (fun x58 ex58 h => ?_))))
      refine L.y rfl (Y.loadE1 (u := gv (q0_2 gx29.toNat) 0) ag28 rfl (fun w' hw => hA0_2.cls0 hw) (zr_idx (vs := q0_2) ex58)) ?_
      refine L.y rfl (Y.assign rfl) ?_
      refine L.nil (E.thenN (W.seq (W.region (L.y rfl (Y.assign rfl) ?_))))
      refine L.nil (E.thenN (W.block (W.loopJ (fun m gs D => ∃ (gx34 : Int) (gv35 : Value) (gl36 : (List TDep)), gs = [(1, pt b1 0), (5, pt b2 0), (6, .func (.func 57) #[] #[pt b2 0]), (8, gv (q0_2 gx29.toNat) 0), (9, .int .i64 gx34), (23, u0_2), (24, .int .i64 (a0.Versions.length : Int)), (25, .int .i64 gx29)] ∧ D = Cls w [] [.obj b2 [gv35] 49, .obj b1 [u0_0, u0_2] 47, .sl gv35 60 3 (gl36.map TDep.row)] ∧ m19_order_Deps_L6 x58 gx29 go5 m gx34 gl36 = some r) ⟨1, gv30, gl31, rfl, rfl, h⟩ ⟨rfl, rfl, rfl, rfl, rfl, rfl, rfl, rfl, trivial⟩ (fun _ hw => hw) ?_)))
      rintro m _ _ ⟨gx34, gv35, gl36, rfl, rfl, h⟩
      rcases m with _ | m
      · rw [m19_order_Deps_L6] at h; cases h
      rw [m19_order_Deps_L6] at h
      generalize hg6 : m19_order_Deps_L6 x58 gx29 go5 m = go6 at h
      rw [m19_order_Deps_L6B] at h
      refine W.seqJ (fun gs D => gs = [(1, pt b1 0), (5, pt b2 0), (6, .func (.func 57) #[] #[pt b2 0]), (8, gv (q0_2 gx29.toNat) 0), (9, .int .i64 gx34), (23, u0_2), (24, .int .i64 (a0.Versions.length : Int)), (25, .int .i64 gx29)] ∧ D = Cls w [] [.obj b2 [gv35] 49, .obj b1 [u0_0, u0_2] 47, .sl gv35 60 3 (gl36.map TDep.row)] ∧ m19_order_Deps_K15 gx34 x58 gl36 go6 = some r) ?_ ?_
      ·
       refine W.seq (W.region (L.y rfl (Y.move rfl) ?_))
       refine L.y rfl (Y.move rfl) ?_
       refine L.y rfl (Y.lenM (g := I) (l := x58) Try.underlying28 rfl (fun w' hw => (zAt (sds := (svSd 3 1 I)) (vs := q0_2) (j := 0) hD0_2 (fun _ _ => rfl) ex58 rfl).cls0 hw)) ?_
       refine L.ite h rfl (Y.lss rfl rfl) (fun c74 h => ?_) (fun c74 h => ?_)
       ·
        refine L.nil (E.thenN (W.condT rfl ?_))
        exact W.skip (E.joinJ ⟨rfl, rfl, h⟩ ⟨rfl, rfl, rfl, rfl, rfl, rfl, rfl, rfl, trivial⟩ (fun _ hw => hw))
       ·
        refine L.nil (E.thenN (W.condF rfl ?_))
        exact W.exit (E.KSX (E.KLX (E.blockX (E.blockN (E.joinJ ⟨gv35, gl36, rfl, rfl, h⟩ ⟨rfl, rfl, rfl, rfl, rfl, rfl, trivial⟩ (fun _ hw => hw))))))
      ·
       rintro _ _ ⟨rfl, rfl, h⟩
       rw [m19_order_Deps_K15] at h
       refine W.seq (W.block (W.drawn2 (k := 11) (stC [[10]] [Cls w [] [.obj b2 [gv35] 49, .obj b1 [u0_0, u0_2] 47, .sl gv35 60 3 (gl36.map TDep.row)]] (Cls w [] [.obj b1 [u0_0, u0_2] 47])) rfl mixed (fun _ hw => hw.drew) (Sc.now (by kernel_rfl) (fun _ hw => hw)) ?_))
       refine V2.y (i := 0) (Nx2.of (Z := Cls w [] [.obj b1 [u0_0, u0_2] 47]) [] (by kernel_rfl) rfl (Zc.on (fun _ hw => hw.sel [1] (by decide) rfl) (Zc.fin (fun _ hw => hw)))) rfl rfl rfl (Y.move rfl) ?_
       refine V2.y (i := 1) (Nx2.of (Z := Cls w [] [.obj b1 [u0_0, u0_2] 47]) [] (by kernel_rfl) rfl (Zc.on (fun _ hw => hw.sel [1] (by decide) rfl) (Zc.fin (fun _ hw => hw)))) rfl rfl rfl (Y.move rfl) ?_
       refine V2.y (i := 2) (Nx2.of (Z := Cls w [] [.obj b1 [u0_0, u0_2] 47]) [] (by kernel_rfl) rfl (Zc.on (fun _ hw => hw.sel [1] (by decide) rfl) (Zc.fin (fun _ hw => hw)))) rfl rfl rfl (Y.move rfl) ?_
       refine V2.m (i := 3) (V' := fun x65 => .int .i64 x65) h (Nx2.of (Z := Cls w [] [.obj b1 [u0_0, u0_2] 47]) [] (by kernel_rfl) rfl (Zc.on (fun _ hw => hw.sel [1] (by decide) rfl) (Zc.fin (fun _ hw => hw)))) rfl rfl rfl (Y.subM rfl rfl) (fun x65 ex65 h => ?_)
       refine V2.m (i := 4) (V' := fun _ => el (gv (q0_2 gx29.toNat) 0) (x65.toNat * 1)) h (Nx2.of (Z := Cls w [] [.obj b1 [u0_0, u0_2] 47]) [] (by kernel_rfl) rfl (Zc.on (fun _ hw => hw.sel [1] (by decide) rfl) (Zc.fin (fun _ hw => hw)))) rfl rfl rfl (Y.indexM (g := I) (l := x58) Try.underlying28 sz3 rfl rfl (fun w' hw => (zAt (sds := (svSd 3 1 I)) (vs := q0_2) (j := 0) hD0_2 (fun _ _ => rfl) ex58 rfl).cls0 hw)) (fun x66 ex66 h => ?_)
       refine V2.y (i := 5) (Nx2.of (Z := Cls w [] [.obj b1 [u0_0, u0_2] 47]) [] (by kernel_rfl) rfl (Zc.on (fun _ hw => hw.sel [1] (by decide) rfl) (Zc.fin (fun _ hw => hw)))) rfl rfl rfl (Y.loadE1 (u := .int .i64 x66) ag3 rfl (fun w' hw => (zAt (sds := (svSd 3 1 I)) (vs := q0_2) (j := 0) hD0_2 (fun _ _ => rfl) ex58 rfl).cls0 hw) (idx_map ex66)) ?_
       refine V2.y (i := 6) (Nx2.of (Z := Cls w [] [.obj b1 [u0_0, u0_2] 47]) [] (by kernel_rfl) rfl (Zc.on (fun _ hw => hw.sel [1] (by decide) rfl) (Zc.fin (fun _ hw => hw)))) rfl rfl rfl (Y.move rfl) ?_
       refine V2.y (i := 7) (Nx2.of (Z := Cls w [] [.obj b1 [u0_0, u0_2] 47]) [] (by kernel_rfl) rfl (Zc.on (fun _ hw => hw.sel [1] (by decide) rfl) (Zc.fin (fun _ hw => hw)))) rfl rfl rfl (Y.move rfl) ?_
       refine V2.m (i := 8) (V' := fun _ => el (gv (q0_2 gx29.toNat) 0) (gx34.toNat * 1)) h (Nx2.of (Z := Cls w [] [.obj b1 [u0_0, u0_2] 47]) [] (by kernel_rfl) rfl (Zc.on (fun _ hw => hw.sel [1] (by decide) rfl) (Zc.fin (fun _ hw => hw)))) rfl rfl rfl (Y.indexM (g := I) (l := x58) Try.underlying28 sz3 rfl rfl (fun w' hw => (zAt (sds := (svSd 3 1 I)) (vs := q0_2) (j := 0) hD0_2 (fun _ _ => rfl) ex58 rfl).cls0 hw)) (fun x67 ex67 h => ?_)
       refine V2.y (i := 9) (Nx2.of (Z := Cls w [] [.obj b1 [u0_0, u0_2] 47]) [] (by kernel_rfl) rfl (Zc.on (fun _ hw => hw.sel [1] (by decide) rfl) (Zc.fin (fun _ hw => hw)))) rfl rfl rfl (Y.loadE1 (u := .int .i64 x67) ag3 rfl (fun w' hw => (zAt (sds := (svSd 3 1 I)) (vs := q0_2) (j := 0) hD0_2 (fun _ _ => rfl) ex58 rfl).cls0 hw) (idx_map ex67)) ?_
       refine V2.eff (i := 10) (by kernel_rfl) rfl ?_
       refine L.callVJ (fun v D => ∃ (gv41 : Value) (gl42 : (List TDep)), v = .tuple #[] ∧ D = Cls w [] [.obj b2 [gv41] 49, .obj b1 [u0_0, u0_2] 47, .sl gv41 60 3 (gl42.map TDep.row)] ∧ m19_order_Deps_K16 gx34 go6 gl42 = some r) rfl en57 rfl rfl Try.func57 rfl rfl rfl ?_ ?_
       ·
        refine W.seq (W.region (L.y rfl (Y.move rfl) ?_))
        refine L.y rfl (Y.move rfl) ?_
        refine L.ite h rfl (Y.neq rfl rfl) (fun c69 h => ?_) (fun c69 h => ?_)
        ·
         refine L.y rfl (Y.move rfl) ?_
         refine L.take rfl (L.y rfl (Y.move rfl) ?_)
         refine L.take rfl (L.ite h rfl (Y.geq rfl rfl) (fun c70 h => ?_) (fun c70 h => ?_))
         ·
          refine L.y rfl (Y.pickT rfl rfl) ?_
          refine L.nil (E.thenN (W.condT rfl ?_))
          refine W.region (L.y rfl (Y.loadP (i := 0) ag49 rfl rfl rfl) ?_)
          refine L.y rfl (Y.move rfl) ?_
          refine L.y rfl (Y.move rfl) ?_
          refine L.y rfl (Y.move rfl) ?_
          refine L.y rfl (Y.build (cells := #[.int .i64 x66, .int .i64 x67, .int .i64 1]) rfl (by kernel_rfl)) ?_
          refine L.litAgg rfl Try.underlying49 el60 rfl rfl rfl ?_
          intro b71
          refine L.appM (i := 3) (g := TDep.row) (l := gl36) (more := [(⟨x66, x67, 1⟩ : TDep)]) h rfl Try.underlying49 el60 rfl rfl rfl (fun w hw => As.at_ (hw.get (i := 0) rfl)) (plain_TDep _) rfl ?_
          intro v72 l73 el73 h
          refine L.storeV (i := 2) sz49 rfl rfl (fun _ hw => (As.at_ (hw.get (i := 0) rfl)).one) rfl (Nat.le_of_ble_eq_true rfl) ?_
          refine L.nil (E.end0 rfl (fun w1 hw => ?_))
          exact ⟨_, _, rfl, ⟨v72, l73, rfl, rfl, h⟩, hw.sel [2, 3, 0] (by decide) rfl⟩
         ·
          refine L.y rfl (Y.pickT rfl rfl) ?_
          refine L.nil (E.thenN (W.condF rfl ?_))
          refine W.skip (E.end0 rfl (fun w1 hw => ?_))
          exact ⟨_, _, rfl, ⟨gv35, gl36, rfl, rfl, h⟩, hw⟩
        ·
         refine L.y rfl (Y.move rfl) ?_
         refine L.pass rfl rfl (by nofun) ?_
         refine L.pass rfl rfl (by nofun) ?_
         refine L.y rfl (Y.pickF rfl rfl) ?_
         refine L.nil (E.thenN (W.condF rfl ?_))
         refine W.skip (E.end0 rfl (fun w1 hw => ?_))
         exact ⟨_, _, rfl, ⟨gv35, gl36, rfl, rfl, h⟩, hw⟩
       ·
        rintro _ _ ⟨gv41, gl42, rfl, rfl, h⟩
        rw [m19_order_Deps_K16] at h
        refine L.nil (E.toV2 (stC [] [] (Cls w [] [.obj b1 [u0_0, u0_2] 47, .sl gv41 60 3 (gl42.map TDep.row)])) 10 (by kernel_rfl) (Sc.past rfl (Sc.stayD (fun _ hw => hw.sel [0] (by decide) rfl))) (Sc.atD (fun _ hw => hw.sel [1, 2] (by decide) rfl)) ?_)
        refine V2.done (by kernel_rfl) ?_
        refine E.blockN (E.thenN (W.region (L.y rfl (Y.move rfl) ?_)))
        refine L.m (V := fun x68 => .int .i64 x68) h rfl (Y.addM rfl rfl) (fun x68 ex68 h => ?_)
        refine L.y rfl (Y.assign rfl) ?_
        exact L.nil (E.againJ ⟨x68, gv41, gl42, rfl, rfl, by rw [hg6]; exact h⟩ (Nat.lt_succ_self _) ⟨rfl, rfl, rfl, rfl, rfl, rfl, rfl, rfl, trivial⟩ (fun _ hw => hw))
     ·
      rintro _ _ ⟨gv32, gl33, rfl, rfl, h⟩
      rw [m19_order_Deps_K14] at h
      refine W.region (L.m (V := fun x57 => .int .i64 x57) h rfl (Y.addM rfl rfl) (fun x57 ex57 h => ?_))
      refine L.y rfl (Y.move rfl) ?_
      exact L.nil (E.againJ ⟨x57, gv32, gl33, rfl, rfl, by rw [hg5]; exact h⟩ (Nat.lt_succ_self _) ⟨rfl, rfl, rfl, rfl, rfl, rfl, trivial⟩ (fun _ hw => hw))
    ·
     refine L.nil (E.thenN (W.seq (W.condF rfl ?_)))
     exact W.exit (E.thenX (E.KLX (E.blockX (E.joinJ ⟨gv30, gl31, rfl, rfl, h⟩ ⟨rfl, rfl, rfl, trivial⟩ (fun _ hw => hw)))))
   ·
    rintro _ _ ⟨gv1, gl2, rfl, rfl, h⟩
    rw [m19_order_Deps_K2] at h
    refine W.seqJ (fun gs D => ∃ (gv3 : Value) (gl4 : (List TDep)), gs = [(5, pt b2 0)] ∧ D = Cls w [] [.obj b2 [gv3] 49, .sl gv3 60 3 (gl4.map TDep.row)] ∧ m19_order_Deps_K3 gl4 = some r) ?_ ?_
    ·
     refine W.seq (W.region (L.y rfl (Y.fieldP fd47_0 rfl) ?_))
     refine L.y rfl (Y.loadP (i := 1) ag44 rfl rfl rfl) ?_
     refine L.y rfl (Y.lenMZ (row := TTale.rowv) (vs := q0_0) (l := a0.Tales) Try.underlying44 rfl (fun w' hw => hA0_0.cls0 hw)) ?_
     refine L.y rfl (Y.move rfl) ?_
     refine L.nil (E.thenN (W.block (W.loopJ (fun m gs D => ∃ (gx13 : Int) (gv14 : Value) (gl15 : (List TDep)), gs = [(1, pt b1 0), (5, pt b2 0), (6, .func (.func 57) #[] #[pt b2 0]), (48, u0_0), (49, .int .i64 (a0.Tales.length : Int)), (50, .int .i64 gx13)] ∧ D = Cls w [] [.obj b2 [gv14] 49, .obj b1 [u0_0, u0_2] 47, .sl gv14 60 3 (gl15.map TDep.row)] ∧ m19_order_Deps_L3 a0 m gx13 gl15 = some r) ⟨0, gv1, gl2, rfl, rfl, h⟩ ⟨rfl, rfl, rfl, rfl, rfl, rfl, trivial⟩ (fun _ hw => hw) ?_)))
     rintro m _ _ ⟨gx13, gv14, gl15, rfl, rfl, h⟩
     rcases m with _ | m
     · rw [m19_order_Deps_L3] at h; cases h
     rw [m19_order_Deps_L3] at h
     generalize hg3 : m19_order_Deps_L3 a0 m = go3 at h
     rw [m19_order_Deps_L3B] at h
     refine W.seq (W.region (L.ite h rfl (Y.lss rfl rfl) (fun c29 h => ?_) (fun c29 h => ?_)))
     ·
      refine L.nil (E.thenN (W.seq (W.condT rfl ?_)))
      refine W.skip (E.thenN (W.seqJ (fun gs D => ∃ (gv16 : Value) (gl17 : (List TDep)), gs = [(1, pt b1 0), (5, pt b2 0), (6, .func (.func 57) #[] #[pt b2 0]), (48, u0_0), (49, .int .i64 (a0.Tales.length : Int)), (50, .int .i64 gx13)] ∧ D = Cls w [] [.obj b2 [gv16] 49, .obj b1 [u0_0, u0_2] 47, .sl gv16 60 3 (gl17.map TDep.row)] ∧ m19_order_Deps_K11 gx13 go3 gl17 = some r) ?_ ?_))
      ·
       refine W.block (W.seq (W.region (L.m (V := fun _ => el u0_0 (gx13.toNat * 2)) h rfl (Y.indexMZ (row := TTale.rowv) (vs := q0_0) (l := a0.Tales) Try.underlying44 sz101 rfl rfl (fun w' hw => hA0_0.cls0 hw)) (fun x31 ex31 h => ?_))))
       refine L.y rfl (Y.loadEN (r := [.int .i64 x31.Tx, gv (q0_0 gx13.toNat) 0]) ag101 sz101 rfl (fun w' hw => hA0_0.cls0 hw) (zr_idx (vs := q0_0) ex31) rfl) ?_
       refine L.alloc rfl ze101 ?_
       intro b32
       refine L.storeC (i := 0) sz101 rfl rfl rfl rfl (fun w hw => (all1 rfl (all1 (At.cls0 (zAt (sds := TTale.sds) (vs := q0_0) (j := 0) hD0_0 (fun _ _ => rfl) ex31 rfl) hw).one all0))) rfl (Nat.le_of_ble_eq_true rfl) ?_
       refine L.nil (E.thenN (W.seq (W.region (L.y rfl (Y.fieldP fd101_1 rfl) ?_))))
       refine L.y rfl (Y.loadP (i := 0) ag99 rfl rfl rfl) ?_
       refine L.y rfl (Y.lenM (g := TGot.row) (l := x31.Reads) Try.underlying99 rfl (fun w' hw => (zAt (sds := TTale.sds) (vs := q0_0) (j := 0) hD0_0 (fun _ _ => rfl) ex31 rfl).cls0 hw)) ?_
       refine L.y rfl (Y.move rfl) ?_
       refine L.nil (E.thenN (W.block (W.loopJ (fun m gs D => ∃ (gx18 : Int) (gv19 : Value) (gl20 : (List TDep)), gs = [(1, pt b1 0), (5, pt b2 0), (6, .func (.func 57) #[] #[pt b2 0]), (11, pt b32 0), (48, u0_0), (49, .int .i64 (a0.Tales.length : Int)), (50, .int .i64 gx13), (55, gv (q0_0 gx13.toNat) 0), (56, .int .i64 (x31.Reads.length : Int)), (57, .int .i64 gx18)] ∧ D = Cls w [] [.obj b32 [.int .i64 x31.Tx, gv (q0_0 gx13.toNat) 0] 101, .obj b2 [gv19] 49, .obj b1 [u0_0, u0_2] 47, .sl gv19 60 3 (gl20.map TDep.row)] ∧ m19_order_Deps_L4 x31 a0 gx13 go3 m gx18 gl20 = some r) ⟨0, gv14, gl15, rfl, rfl, h⟩ ⟨rfl, rfl, rfl, rfl, rfl, rfl, rfl, rfl, rfl, rfl, trivial⟩ (fun _ hw => hw) ?_)))
       rintro m _ _ ⟨gx18, gv19, gl20, rfl, rfl, h⟩
       rcases m with _ | m
       · rw [m19_order_Deps_L4] at h; cases h
       rw [m19_order_Deps_L4] at h
       generalize hg4 : m19_order_Deps_L4 x31 a0 gx13 go3 m = go4 at h
       rw [m19_order_Deps_L4B] at h
       refine W.seq (W.region (L.ite h rfl (Y.lss rfl rfl) (fun c33 h => ?_) (fun c33 h => ?_)))
       ·
        refine L.nil (E.thenN (W.seq (W.condT rfl ?_)))
        refine W.skip (E.thenN (W.seq (W.block (W.seq (W.region (L.m (V := fun _ => el (gv (q0_0 gx13.toNat) 0) (gx18.toNat * 2)) h rfl (Y.indexM (g := TGot.row) (l := x31.Reads) Try.underlying99 sz104 rfl rfl (fun w' hw => (zAt (sds := TTale.sds) (vs := q0_0) (j := 0) hD0_0 (fun _ _ => rfl) ex31 rfl).cls0 hw)) (fun x34 ex34 h => ?_)))))))
        refine L.y rfl (Y.loadEN (r := [.int .i64 x34.Item, .int .i64 x34.From]) ag104 sz104 rfl (fun w' hw => (zAt (sds := TTale.sds) (vs := q0_0) (j := 0) hD0_0 (fun _ _ => rfl) ex31 rfl).cls0 hw) (idx_map ex34) rfl) ?_
        refine L.alloc rfl ze104 ?_
        intro b35
        refine L.store (i := 0) sz104 rfl rfl rfl rfl (by simp [Value.oneCell', Value.cells, st]) rfl (Nat.le_of_ble_eq_true rfl) ?_
        refine L.nil (E.thenN (W.seq (W.region (L.y rfl (Y.move rfl) ?_))))
        refine L.y rfl (Y.fieldP fd104_1 rfl) ?_
        refine L.y rfl (Y.loadP (i := 0) ag3 rfl rfl rfl) ?_
        refine L.y rfl (Y.fieldP fd101_0 rfl) ?_
        refine L.y rfl (Y.loadP (i := 1) ag3 rfl rfl rfl) ?_
        refine L.callVJ (fun v D => ∃ (gv21 : Value) (gl22 : (List TDep)), v = .tuple #[] ∧ D = Cls w [] [.obj b35 [.int .i64 x34.Item, .int .i64 x34.From] 104, .obj b32 [.int .i64 x31.Tx, gv (q0_0 gx13.toNat) 0] 101, .obj b2 [gv21] 49, .obj b1 [u0_0, u0_2] 47, .sl gv21 60 3 (gl22.map TDep.row)] ∧ m19_order_Deps_K12 a0 x34 x31 gx18 go4 gl22 = some r) rfl en57 rfl rfl Try.func57 rfl rfl rfl ?_ ?_
        ·
         refine W.seq (W.region (L.y rfl (Y.move rfl) ?_))
         refine L.y rfl (Y.move rfl) ?_
         refine L.ite h rfl (Y.neq rfl rfl) (fun c51 h => ?_) (fun c51 h => ?_)
         ·
          refine L.y rfl (Y.move rfl) ?_
          refine L.take rfl (L.y rfl (Y.move rfl) ?_)
          refine L.take rfl (L.ite h rfl (Y.geq rfl rfl) (fun c52 h => ?_) (fun c52 h => ?_))
          ·
           refine L.y rfl (Y.pickT rfl rfl) ?_
           refine L.nil (E.thenN (W.condT rfl ?_))
           refine W.region (L.y rfl (Y.loadP (i := 2) ag49 rfl rfl rfl) ?_)
           refine L.y rfl (Y.move rfl) ?_
           refine L.y rfl (Y.move rfl) ?_
           refine L.y rfl (Y.move rfl) ?_
           refine L.y rfl (Y.build (cells := #[.int .i64 x34.From, .int .i64 x31.Tx, .int .i64 2]) rfl (by kernel_rfl)) ?_
           refine L.litAgg rfl Try.underlying49 el60 rfl rfl rfl ?_
           intro b53
           refine L.appM (i := 5) (g := TDep.row) (l := gl20) (more := [(⟨x34.From, x31.Tx, 2⟩ : TDep)]) h rfl Try.underlying49 el60 rfl rfl rfl (fun w hw => As.at_ (hw.get (i := 0) rfl)) (plain_TDep _) rfl ?_
           intro v54 l55 el55 h
           refine L.storeV (i := 4) sz49 rfl rfl (fun _ hw => (As.at_ (hw.get (i := 0) rfl)).one) rfl (Nat.le_of_ble_eq_true rfl) ?_
           refine L.nil (E.end0 rfl (fun w1 hw => ?_))
           exact ⟨_, _, rfl, ⟨v54, l55, rfl, rfl, h⟩, hw.sel [2, 3, 4, 5, 0] (by decide) rfl⟩
          ·
           refine L.y rfl (Y.pickT rfl rfl) ?_
           refine L.nil (E.thenN (W.condF rfl ?_))
           refine W.skip (E.end0 rfl (fun w1 hw => ?_))
           exact ⟨_, _, rfl, ⟨gv19, gl20, rfl, rfl, h⟩, hw⟩
         ·
          refine L.y rfl (Y.move rfl) ?_
          refine L.pass rfl rfl (by nofun) ?_
          refine L.pass rfl rfl (by nofun) ?_
          refine L.y rfl (Y.pickF rfl rfl) ?_
          refine L.nil (E.thenN (W.condF rfl ?_))
          refine W.skip (E.end0 rfl (fun w1 hw => ?_))
          exact ⟨_, _, rfl, ⟨gv19, gl20, rfl, rfl, h⟩, hw⟩
        ·
         rintro _ _ ⟨gv21, gl22, rfl, rfl, h⟩
         rw [m19_order_Deps_K12] at h
         refine L.nil (E.thenN (W.seq (W.region (L.y rfl (Y.fieldP fd47_1 rfl) ?_))))
         refine L.y rfl (Y.loadP (i := 3) ag45 rfl rfl rfl) ?_
         refine L.y rfl (Y.fieldP fd104_0 rfl) ?_
         refine L.y rfl (Y.loadP (i := 0) ag3 rfl rfl rfl) ?_
         refine L.m (V := fun _ => el u0_2 (x34.Item.toNat * 1)) h rfl (Y.indexMZ (row := svRow) (vs := q0_2) (l := a0.Versions) Try.underlying45 sz28 rfl rfl (fun w' hw => hA0_2.cls0 hw)) (fun x36 ex36 h => ?_)
         refine L.y rfl (Y.loadE1 (u := gv (q0_2 x34.Item.toNat) 0) ag28 rfl (fun w' hw => hA0_2.cls0 hw) (zr_idx (vs := q0_2) ex36)) ?_
         refine L.y rfl (Y.assign rfl) ?_
         refine L.nil (E.thenN (W.seq (W.region (L.y rfl (Y.move rfl) ?_))))
         refine L.y rfl (Y.fieldP fd104_1 rfl) ?_
         refine L.y rfl (Y.loadP (i := 0) ag3 rfl rfl rfl) ?_
         obtain ⟨x37, e38, h⟩ := bind1S h
         refine L.y rfl (Y.does en56 rfl (fun w' hw => (w56_slices_Index_int x36 x34.From (gv (q0_2 x34.Item.toNat) 0) w' _ e38 ((zAt (sds := (svSd 3 1 I)) (vs := q0_2) (j := 0) hD0_2 (fun _ _ => rfl) ex36 rfl).cls0 hw)).mono (fun _ _ h => h.1))) ?_
         refine L.m (V := fun x39 => .int .i64 x39) h rfl (Y.addM rfl rfl) (fun x39 ex39 h => ?_)
         refine L.y rfl (Y.assign rfl) ?_
         refine L.nil (E.thenN (W.seq (W.region (L.y rfl (Y.move rfl) ?_))))
         refine L.y rfl (Y.move rfl) ?_
         refine L.y rfl (Y.lenM (g := I) (l := x36) Try.underlying28 rfl (fun w' hw => (zAt (sds := (svSd 3 1 I)) (vs := q0_2) (j := 0) hD0_2 (fun _ _ => rfl) ex36 rfl).cls0 hw)) ?_
         refine L.ite h rfl (Y.lss rfl rfl) (fun c40 h => ?_) (fun c40 h => ?_)
         ·
          refine L.nil (E.thenN (W.condT rfl ?_))
          refine W.drawn2 (k := 8) (stC [[7]] [Cls w [] [.obj b35 [.int .i64 x34.Item, .int .i64 x34.From] 104, .obj b32 [.int .i64 x31.Tx, gv (q0_0 gx13.toNat) 0] 101, .obj b2 [gv21] 49, .obj b1 [u0_0, u0_2] 47, .sl gv21 60 3 (gl22.map TDep.row)]] (Cls w [] [.obj b35 [.int .i64 x34.Item, .int .i64 x34.From] 104, .obj b32 [.int .i64 x31.Tx, gv (q0_0 gx13.toNat) 0] 101, .obj b1 [u0_0, u0_2] 47])) rfl mixed (fun _ hw => hw.drew) (Sc.now (by kernel_rfl) (fun _ hw => hw)) ?_
          refine V2.y (i := 0) (Nx2.of (Z := Cls w [] [.obj b35 [.int .i64 x34.Item, .int .i64 x34.From] 104, .obj b32 [.int .i64 x31.Tx, gv (q0_0 gx13.toNat) 0] 101, .obj b1 [u0_0, u0_2] 47]) [] (by kernel_rfl) rfl (Zc.on (fun _ hw => hw.sel [0, 1, 3] (by decide) rfl) (Zc.fin (fun _ hw => hw)))) rfl rfl rfl (Y.move rfl) ?_
          refine V2.y (i := 1) (Nx2.of (Z := Cls w [] [.obj b35 [.int .i64 x34.Item, .int .i64 x34.From] 104, .obj b32 [.int .i64 x31.Tx, gv (q0_0 gx13.toNat) 0] 101, .obj b1 [u0_0, u0_2] 47]) [] (by kernel_rfl) rfl (Zc.on (fun _ hw => hw.sel [0, 1, 3] (by decide) rfl) (Zc.fin (fun _ hw => hw)))) rfl rfl rfl (Y.fieldP fd101_0 rfl) ?_
          refine V2.y (i := 2) (Nx2.of (Z := Cls w [] [.obj b35 [.int .i64 x34.Item, .int .i64 x34.From] 104, .obj b32 [.int .i64 x31.Tx, gv (q0_0 gx13.toNat) 0] 101, .obj b1 [u0_0, u0_2] 47]) [] (by kernel_rfl) rfl (Zc.on (fun _ hw => hw.sel [0, 1, 3] (by decide) rfl) (Zc.fin (fun _ hw => hw)))) rfl rfl rfl (Y.loadP (i := 1) ag3 rfl rfl rfl) ?_
          refine V2.y (i := 3) (Nx2.of (Z := Cls w [] [.obj b35 [.int .i64 x34.Item, .int .i64 x34.From] 104, .obj b32 [.int .i64 x31.Tx, gv (q0_0 gx13.toNat) 0] 101, .obj b1 [u0_0, u0_2] 47]) [] (by kernel_rfl) rfl (Zc.on (fun _ hw => hw.sel [0, 1, 3] (by decide) rfl) (Zc.fin (fun _ hw => hw)))) rfl rfl rfl (Y.move rfl) ?_
          refine V2.y (i := 4) (Nx2.of (Z := Cls w [] [.obj b35 [.int .i64 x34.Item, .int .i64 x34.From] 104, .obj b32 [.int .i64 x31.Tx, gv (q0_0 gx13.toNat) 0] 101, .obj b1 [u0_0, u0_2] 47]) [] (by kernel_rfl) rfl (Zc.on (fun _ hw => hw.sel [0, 1, 3] (by decide) rfl) (Zc.fin (fun _ hw => hw)))) rfl rfl rfl (Y.move rfl) ?_
          refine V2.m (i := 5) (V' := fun _ => el (gv (q0_2 x34.Item.toNat) 0) (x39.toNat * 1)) h (Nx2.of (Z := Cls w [] [.obj b35 [.int .i64 x34.Item, .int .i64 x34.From] 104, .obj b32 [.int .i64 x31.Tx, gv (q0_0 gx13.toNat) 0] 101, .obj b1 [u0_0, u0_2] 47]) [] (by kernel_rfl) rfl (Zc.on (fun _ hw => hw.sel [0, 1, 3] (by decide) rfl) (Zc.fin (fun _ hw => hw)))) rfl rfl rfl (Y.indexM (g := I) (l := x36) Try.underlying28 sz3 rfl rfl (fun w' hw => (zAt (sds := (svSd 3 1 I)) (vs := q0_2) (j := 0) hD0_2 (fun _ _ => rfl) ex36 rfl).cls0 hw)) (fun x43 ex43 h => ?_)
          refine V2.y (i := 6) (Nx2.of (Z := Cls w [] [.obj b35 [.int .i64 x34.Item, .int .i64 x34.From] 104, .obj b32 [.int .i64 x31.Tx, gv (q0_0 gx13.toNat) 0] 101, .obj b1 [u0_0, u0_2] 47]) [] (by kernel_rfl) rfl (Zc.on (fun _ hw => hw.sel [0, 1, 3] (by decide) rfl) (Zc.fin (fun _ hw => hw)))) rfl rfl rfl (Y.loadE1 (u := .int .i64 x43) ag3 rfl (fun w' hw => (zAt (sds := (svSd 3 1 I)) (vs := q0_2) (j := 0) hD0_2 (fun _ _ => rfl) ex36 rfl).cls0 hw) (idx_map ex43)) ?_
          refine V2.eff (i := 7) (by kernel_rfl) rfl ?_
          refine L.callVJ (fun v D => ∃ (gv27 : Value) (gl28 : (List TDep)), v = .tuple #[] ∧ D = Cls w [] [.obj b35 [.int .i64 x34.Item, .int .i64 x34.From] 104, .obj b32 [.int .i64 x31.Tx, gv (q0_0 gx13.toNat) 0] 101, .obj b2 [gv27] 49, .obj b1 [u0_0, u0_2] 47, .sl gv27 60 3 (gl28.map TDep.row)] ∧ m19_order_Deps_K13 gx18 go4 gl28 = some r) rfl en57 rfl rfl Try.func57 rfl rfl rfl ?_ ?_
          ·
           refine W.seq (W.region (L.y rfl (Y.move rfl) ?_))
           refine L.y rfl (Y.move rfl) ?_
           refine L.ite h rfl (Y.neq rfl rfl) (fun c45 h => ?_) (fun c45 h => ?_)
           ·
            refine L.y rfl (Y.move rfl) ?_
            refine L.take rfl (L.y rfl (Y.move rfl) ?_)
            refine L.take rfl (L.ite h rfl (Y.geq rfl rfl) (fun c46 h => ?_) (fun c46 h => ?_))
            ·
             refine L.y rfl (Y.pickT rfl rfl) ?_
             refine L.nil (E.thenN (W.condT rfl ?_))
             refine W.region (L.y rfl (Y.loadP (i := 2) ag49 rfl rfl rfl) ?_)
             refine L.y rfl (Y.move rfl) ?_
             refine L.y rfl (Y.move rfl) ?_
             refine L.y rfl (Y.move rfl) ?_
             refine L.y rfl (Y.build (cells := #[.int .i64 x31.Tx, .int .i64 x43, .int .i64 3]) rfl (by kernel_rfl)) ?_
             refine L.litAgg rfl Try.underlying49 el60 rfl rfl rfl ?_
             intro b47
             refine L.appM (i := 5) (g := TDep.row) (l := gl22) (more := [(⟨x31.Tx, x43, 3⟩ : TDep)]) h rfl Try.underlying49 el60 rfl rfl rfl (fun w hw => As.at_ (hw.get (i := 0) rfl)) (plain_TDep _) rfl ?_
             intro v48 l49 el49 h
             refine L.storeV (i := 4) sz49 rfl rfl (fun _ hw => (As.at_ (hw.get (i := 0) rfl)).one) rfl (Nat.le_of_ble_eq_true rfl) ?_
             refine L.nil (E.end0 rfl (fun w1 hw => ?_))
             exact ⟨_, _, rfl, ⟨v48, l49, rfl, rfl, h⟩, hw.sel [2, 3, 4, 5, 0] (by decide) rfl⟩
            ·
             refine L.y rfl (Y.pickT rfl rfl) ?_
             refine L.nil (E.thenN (W.condF rfl ?_))
             refine W.skip (E.end0 rfl (fun w1 hw => ?_))
             exact ⟨_, _, rfl, ⟨gv21, gl22, rfl, rfl, h⟩, hw⟩
           ·
            refine L.y rfl (Y.move rfl) ?_
            refine L.pass rfl rfl (by nofun) ?_
            refine L.pass rfl rfl (by nofun) ?_
            refine L.y rfl (Y.pickF rfl rfl) ?_
            refine L.nil (E.thenN (W.condF rfl ?_))
            refine W.skip (E.end0 rfl (fun w1 hw => ?_))
            exact ⟨_, _, rfl, ⟨gv21, gl22, rfl, rfl, h⟩, hw⟩
          ·
           rintro _ _ ⟨gv27, gl28, rfl, rfl, h⟩
           rw [m19_order_Deps_K13] at h
           refine L.nil (E.toV2 (stC [] [] (Cls w [] [.obj b35 [.int .i64 x34.Item, .int .i64 x34.From] 104, .obj b32 [.int .i64 x31.Tx, gv (q0_0 gx13.toNat) 0] 101, .obj b1 [u0_0, u0_2] 47, .sl gv27 60 3 (gl28.map TDep.row)])) 7 (by kernel_rfl) (Sc.past rfl (Sc.stayD (fun _ hw => hw.sel [0, 1, 2] (by decide) rfl))) (Sc.atD (fun _ hw => hw.sel [0, 1, 3, 4] (by decide) rfl)) ?_)
           refine V2.done (by kernel_rfl) ?_
           refine E.blockN (E.thenN (W.region (L.m (V := fun x44 => .int .i64 x44) h rfl (Y.addM rfl rfl) (fun x44 ex44 h => ?_))))
           refine L.y rfl (Y.move rfl) ?_
           exact L.nil (E.againJ ⟨x44, gv27, gl28, rfl, rfl, by rw [hg4]; exact h⟩ (Nat.lt_succ_self _) ⟨rfl, rfl, rfl, rfl, rfl, rfl, rfl, rfl, rfl, rfl, trivial⟩ (fun _ hw => hw.sel [1, 2, 3, 4] (by decide) rfl))
         ·
          refine L.nil (E.thenN (W.condF rfl ?_))
          refine W.skip (E.blockN (E.thenN (W.region (L.m (V := fun x50 => .int .i64 x50) h rfl (Y.addM rfl rfl) (fun x50 ex50 h => ?_)))))
          refine L.y rfl (Y.move rfl) ?_
          exact L.nil (E.againJ ⟨x50, gv21, gl22, rfl, rfl, by rw [hg4]; exact h⟩ (Nat.lt_succ_self _) ⟨rfl, rfl, rfl, rfl, rfl, rfl, rfl, rfl, rfl, rfl, trivial⟩ (fun _ hw => hw.sel [1, 2, 3, 4] (by decide) rfl))
       ·
        refine L.nil (E.thenN (W.seq (W.condF rfl ?_)))
        exact W.exit (E.thenX (E.KLX (E.blockX (E.blockN (E.joinJ ⟨gv19, gl20, rfl, rfl, h⟩ ⟨rfl, rfl, rfl, rfl, rfl, rfl, trivial⟩ (fun _ hw => hw.sel [1, 2, 3] (by decide) rfl))))))
      ·
       rintro _ _ ⟨gv16, gl17, rfl, rfl, h⟩
       rw [m19_order_Deps_K11] at h
       refine W.region (L.m (V := fun x30 => .int .i64 x30) h rfl (Y.addM rfl rfl) (fun x30 ex30 h => ?_))
       refine L.y rfl (Y.move rfl) ?_
       exact L.nil (E.againJ ⟨x30, gv16, gl17, rfl, rfl, by rw [hg3]; exact h⟩ (Nat.lt_succ_self _) ⟨rfl, rfl, rfl, rfl, rfl, rfl, trivial⟩ (fun _ hw => hw))
     ·
      refine L.nil (E.thenN (W.seq (W.condF rfl ?_)))
      exact W.exit (E.thenX (E.KLX (E.blockX (E.joinJ ⟨gv14, gl15, rfl, rfl, h⟩ ⟨rfl, trivial⟩ (fun _ hw => hw.sel [0, 2] (by decide) rfl)))))
    ·
     rintro _ _ ⟨gv3, gl4, rfl, rfl, h⟩
     rw [m19_order_Deps_K3] at h
     refine W.seq (W.region (L.y rfl (Y.loadP (i := 0) ag49 rfl rfl rfl) ?_))
     refine L.sortFMD (i := 1) (l := gl4) (enc := TDep.row) (cf := (fun x y => (m59_order_Deps_2 x y).getD 0)) h wSort58 (fun _ => rfl) swo59 tot59 en59 (fun x y w => (w59_order_Deps_2 x y w _ (def59 x y)).mono (fun _ _ h => h.1)) rfl en58 rfl rfl rfl ?_
     intro l3 el3 h
     refine L.nil (E.thenN (W.seq (W.region (L.y rfl (Y.loadP (i := 0) ag49 rfl rfl rfl) ?_))))
     refine L.callJ (fun v D => ∃ (gv5 : Value) (gl6 : (List TDep)), v = gv5 ∧ D = Cls w [] [.sl gv5 60 3 (gl6.map TDep.row)] ∧ m19_order_Deps_K4 gl6 = some r) rfl en62 rfl Try.func62 rfl rfl rfl ?_ ?_
     ·
      refine W.seq (W.region (L.y rfl (Y.assign rfl) ?_))
      refine L.nil (E.thenN (W.seqJ (fun gs D => gs = [(0, gv3)] ∧ D = Cls w [] [.sl gv3 60 3 (l3.map TDep.row)] ∧ m19_order_Deps_K5 l3 = some r) ?_ ?_))
      ·
       refine W.seq (W.region (L.y rfl (Y.move rfl) ?_))
       refine L.y rfl (Y.lenM (g := TDep.row) (l := l3) Try.underlying49 rfl (fun w hw => As.at_ (hw.get (i := 1) rfl))) ?_
       refine L.ite h rfl (Y.lss rfl rfl) (fun c28 h => ?_) (fun c28 h => ?_)
       ·
        refine L.nil (E.thenN (W.condT rfl ?_))
        refine W.seq (W.region (L.y rfl (Y.move rfl) ?_))
        refine L.y rfl (Y.assign rfl) ?_
        refine L.nil (E.thenN (W.ret (E.KSR (E.ret1 rfl rfl (fun w1 hw => ?_)))))
        exact ⟨_, _, rfl, ⟨gv3, l3, rfl, rfl, h⟩, hw.sel [1] (by decide) rfl⟩
       ·
        refine L.nil (E.thenN (W.condF rfl ?_))
        exact W.skip (E.joinJ ⟨rfl, rfl, h⟩ ⟨rfl, trivial⟩ (fun _ hw => hw.sel [1] (by decide) rfl))
      ·
       rintro _ _ ⟨rfl, rfl, h⟩
       rw [m19_order_Deps_K5] at h
       refine W.seqJ (fun gs D => gs = [(0, gv3)] ∧ D = Cls w [] [.sl gv3 60 3 (l3.map TDep.row)] ∧ m19_order_Deps_K6 l3 = some r) ?_ ?_
       ·
        refine W.seq (W.region (L.y rfl (Y.assign rfl) ?_))
        refine L.nil (E.thenN (W.block (W.loopJ (fun m gs D => ∃ (gx7 : Int), gs = [(0, gv3), (3, .int .i64 gx7)] ∧ D = Cls w [] [.sl gv3 60 3 (l3.map TDep.row)] ∧ m19_order_Deps_L1 l3 m gx7 = some r) ⟨1, rfl, rfl, h⟩ ⟨rfl, rfl, trivial⟩ (fun _ hw => hw) ?_)))
        rintro m _ _ ⟨gx7, rfl, rfl, h⟩
        rcases m with _ | m
        · rw [m19_order_Deps_L1] at h; cases h
        rw [m19_order_Deps_L1] at h
        generalize hg1 : m19_order_Deps_L1 l3 m = go1 at h
        rw [m19_order_Deps_L1B] at h
        refine W.seqJ (fun gs D => gs = [(0, gv3), (3, .int .i64 gx7)] ∧ D = Cls w [] [.sl gv3 60 3 (l3.map TDep.row)] ∧ m19_order_Deps_K7 l3 gx7 go1 = some r) ?_ ?_
        ·
         refine W.seq (W.region (L.y rfl (Y.move rfl) ?_))
         refine L.y rfl (Y.move rfl) ?_
         refine L.y rfl (Y.lenM (g := TDep.row) (l := l3) Try.underlying49 rfl (fun w hw => As.at_ (hw.get (i := 0) rfl))) ?_
         refine L.ite h rfl (Y.lss rfl rfl) (fun c27 h => ?_) (fun c27 h => ?_)
         ·
          refine L.nil (E.thenN (W.condT rfl ?_))
          exact W.skip (E.joinJ ⟨rfl, rfl, h⟩ ⟨rfl, rfl, trivial⟩ (fun _ hw => hw))
         ·
          refine L.nil (E.thenN (W.condF rfl ?_))
          exact W.exit (E.KSX (E.KLX (E.blockX (E.joinJ ⟨rfl, rfl, h⟩ ⟨rfl, trivial⟩ (fun _ hw => hw)))))
        ·
         rintro _ _ ⟨rfl, rfl, h⟩
         rw [m19_order_Deps_K7] at h
         refine W.seqJ (fun gs D => gs = [(0, gv3), (3, .int .i64 gx7)] ∧ D = Cls w [] [.sl gv3 60 3 (l3.map TDep.row)] ∧ m19_order_Deps_K8 gx7 go1 = some r) ?_ ?_
         ·
          refine W.block (W.seq (W.quietC mixed (by kernel_rfl) (fun _ hw => hw.drew) (fun hC => ?_)))
          refine U.y rfl (Y.move rfl) ?_
          refine U.y rfl (Y.move rfl) ?_
          refine U.m (V := fun _ => el gv3 (gx7.toNat * 3)) h rfl (Y.indexM (g := TDep.row) (l := l3) Try.underlying49 sz60 rfl rfl (fun w hw => As.at_ (hw.get (i := 0) rfl))) (fun x5 ex5 h => ?_)
          refine U.y rfl (Y.loadEN (r := [.int .i64 x5.From, .int .i64 x5.To, .int .i64 x5.Kind]) ag60 sz60 rfl (fun w hw => As.at_ (hw.get (i := 0) rfl)) (idx_map ex5) rfl) ?_
          refine U.y rfl (Y.move rfl) ?_
          refine U.y rfl (Y.move rfl) ?_
          refine U.m (V := fun x6 => .int .i64 x6) h rfl (Y.subM rfl rfl) (fun x6 ex6 h => ?_)
          refine U.m (V := fun _ => el gv3 (x6.toNat * 3)) h rfl (Y.indexM (g := TDep.row) (l := l3) Try.underlying49 sz60 rfl rfl (fun w hw => As.at_ (hw.get (i := 0) rfl))) (fun x7 ex7 h => ?_)
          refine U.y rfl (Y.loadEN (r := [.int .i64 x7.From, .int .i64 x7.To, .int .i64 x7.Kind]) ag60 sz60 rfl (fun w hw => As.at_ (hw.get (i := 0) rfl)) (idx_map ex7) rfl) ?_
          refine U.ite h rfl (Y.eqlA (row := TDep.row) (a := x5) (b := x7) eg60 ag60 (sh60 _) (sh60 _) (inj60 _ _) rfl rfl) (fun c8 h => ?_) (fun c8 h => ?_)
          ·
           refine U.nil (E.thenN (W.condT rfl ?_))
           refine W.seq (W.region (L.y rfl (Y.move rfl) ?_))
           refine L.y rfl (Y.move rfl) ?_
           refine L.m (V := fun _ => dropv gv3 gx7.toNat 3) h rfl (Y.dropM (g := TDep.row) Try.underlying49 sz60 rfl rfl (fun w hw => As.at_ (hw.get (i := 0) rfl))) (fun l9 el9 h => ?_)
           refine L.y rfl (Y.assign rfl) ?_
           refine L.nil (E.thenN (W.seqJ (fun gs D => ∃ (gl8 : (List TDep)) (gx9 : Int), gs = [(0, gv3), (3, .int .i64 gx9)] ∧ D = Cls w [] [.sl gv3 60 3 (gl8.map TDep.row)] ∧ m19_order_Deps_K9 gl8 gx9 = some r) ?_ ?_))
           ·
            refine W.seq (W.region (L.y rfl (Y.assign rfl) ?_))
            refine L.nil (E.thenN (W.block (W.loopJ (fun m gs D => ∃ (gl10 : (List TDep)) (gx11 : Int) (gx12 : Int), gs = [(0, gv3), (3, .int .i64 gx11), (4, dropv gv3 gx7.toNat 3), (5, .int .i64 gx12)] ∧ D = Cls w [] [.sl gv3 60 3 (gl10.map TDep.row)] ∧ m19_order_Deps_L2 gx7 m gl10 gx11 gx12 = some r) ⟨l3, gx7, 1, rfl, rfl, h⟩ ⟨rfl, rfl, rfl, rfl, trivial⟩ (fun _ hw => hw) ?_)))
            rintro m _ _ ⟨gl10, gx11, gx12, rfl, rfl, h⟩
            rcases m with _ | m
            · rw [m19_order_Deps_L2] at h; cases h
            rw [m19_order_Deps_L2] at h
            generalize hg2 : m19_order_Deps_L2 gx7 m = go2 at h
            rw [m19_order_Deps_L2B] at h
            refine W.seqJ (fun gs D => gs = [(0, gv3), (3, .int .i64 gx11), (4, dropv gv3 gx7.toNat 3), (5, .int .i64 gx12)] ∧ D = Cls w [] [.sl gv3 60 3 (gl10.map TDep.row)] ∧ m19_order_Deps_K10 gl10 gx7 gx12 gx11 go2 = some r) ?_ ?_
            ·
             refine W.seq (W.region (L.y rfl (Y.move rfl) ?_))
             obtain ⟨l25, el25, h⟩ := bind1S h
             refine L.y rfl (Y.move rfl) ?_
             refine L.y rfl (Y.lenM (g := TDep.row) (l := l25) Try.underlying49 rfl (fun w hw => (At.dropM (As.at_ (hw.get (i := 0) rfl)) el25))) ?_
             refine L.ite h rfl (Y.lss rfl rfl) (fun c26 h => ?_) (fun c26 h => ?_)
             ·
              refine L.nil (E.thenN (W.condT rfl ?_))
              exact W.skip (E.joinJ ⟨rfl, rfl, h⟩ ⟨rfl, rfl, rfl, rfl, trivial⟩ (fun _ hw => hw))
             ·
              refine L.nil (E.thenN (W.condF rfl ?_))
              exact W.exit (E.KSX (E.KLX (E.blockX (E.joinJ ⟨gl10, gx11, rfl, rfl, h⟩ ⟨rfl, rfl, trivial⟩ (fun _ hw => hw)))))
            ·
             rintro _ _ ⟨rfl, rfl, h⟩
             rw [m19_order_Deps_K10] at h
             refine W.seq (W.block (W.seq (W.quietC mixed (by kernel_rfl) (fun _ hw => hw.drew) (fun hC => ?_))))
             obtain ⟨l14, el14, h⟩ := bind1S h
             refine U.y rfl (Y.move rfl) ?_
             refine U.y rfl (Y.move rfl) ?_
             refine U.m (V := fun _ => el (dropv gv3 gx7.toNat 3) (gx12.toNat * 3)) h rfl (Y.indexM (g := TDep.row) (l := l14) Try.underlying49 sz60 rfl rfl (fun w hw => (At.dropM (As.at_ (hw.get (i := 0) rfl)) el14))) (fun x15 ex15 h => ?_)
             refine U.y rfl (Y.loadEN (r := [.int .i64 x15.From, .int .i64 x15.To, .int .i64 x15.Kind]) ag60 sz60 rfl (fun w hw => (At.dropM (As.at_ (hw.get (i := 0) rfl)) el14)) (idx_map ex15) rfl) ?_
             refine U.y rfl (Y.move rfl) ?_
             refine U.y rfl (Y.move rfl) ?_
             refine U.m (V := fun x16 => .int .i64 x16) h rfl (Y.subM rfl rfl) (fun x16 ex16 h => ?_)
             refine U.m (V := fun _ => el (dropv gv3 gx7.toNat 3) (x16.toNat * 3)) h rfl (Y.indexM (g := TDep.row) (l := l14) Try.underlying49 sz60 rfl rfl (fun w hw => (At.dropM (As.at_ (hw.get (i := 0) rfl)) el14))) (fun x17 ex17 h => ?_)
             refine U.y rfl (Y.loadEN (r := [.int .i64 x17.From, .int .i64 x17.To, .int .i64 x17.Kind]) ag60 sz60 rfl (fun w hw => (At.dropM (As.at_ (hw.get (i := 0) rfl)) el14)) (idx_map ex17) rfl) ?_
             refine U.ite h rfl (Y.neqA (row := TDep.row) (a := x15) (b := x17) eg60 ag60 (sh60 _) (sh60 _) (inj60 _ _) rfl rfl) (fun c18 h => ?_) (fun c18 h => ?_)
             ·
              refine U.nil (E.thenN (W.condT rfl ?_))
              refine W.seq (W.region (L.y rfl (Y.move rfl) ?_))
              refine L.y rfl (Y.move rfl) ?_
              refine L.y rfl (Y.move rfl) ?_
              refine L.y rfl (Y.move rfl) ?_
              refine L.m (V := fun _ => el (dropv gv3 gx7.toNat 3) (gx12.toNat * 3)) h rfl (Y.indexM (g := TDep.row) (l := l14) Try.underlying49 sz60 rfl rfl (fun w hw => (At.dropM (As.at_ (hw.get (i := 0) rfl)) el14))) (fun x19 ex19 h => ?_)
              refine L.y rfl (Y.loadEN (r := [.int .i64 x19.From, .int .i64 x19.To, .int .i64 x19.Kind]) ag60 sz60 rfl (fun w hw => (At.dropM (As.at_ (hw.get (i := 0) rfl)) el14)) (idx_map ex19) rfl) ?_
              refine L.m (V := fun _ => el gv3 (gx11.toNat * 3)) h rfl (Y.indexM (g := TDep.row) (l := gl10) Try.underlying49 sz60 rfl rfl (fun w hw => As.at_ (hw.get (i := 0) rfl))) (fun x20 ex20 h => ?_)
              refine L.storeSlM (q := 0) (row := TDep.row) (vs := [.int .i64 x19.From, .int .i64 x19.To, .int .i64 x19.Kind]) (j := 0) (u1 := x19) h sz60 rfl rfl rfl rfl rfl (all1 rfl (all1 rfl (all1 rfl all0))) rfl ex20 rfl rfl ?_
              intro l21 el21 h
              refine L.nil (E.thenN (W.region (L.y rfl (Y.move rfl) ?_)))
              refine L.m (V := fun x22 => .int .i64 x22) h rfl (Y.addM rfl rfl) (fun x22 ex22 h => ?_)
              refine L.y rfl (Y.assign rfl) ?_
              refine L.nil (E.blockN (E.thenN (W.region (L.y rfl (Y.move rfl) ?_))))
              refine L.m (V := fun x23 => .int .i64 x23) h rfl (Y.addM rfl rfl) (fun x23 ex23 h => ?_)
              refine L.y rfl (Y.assign rfl) ?_
              exact L.nil (E.againJ ⟨l21, x22, x23, rfl, rfl, by rw [hg2]; exact h⟩ (Nat.lt_succ_self _) ⟨rfl, rfl, rfl, rfl, trivial⟩ (fun _ hw => hw))
             ·
              refine U.nil (E.thenN (W.condF rfl ?_))
              refine W.skip (E.blockN (E.thenN (W.region (L.y rfl (Y.move rfl) ?_))))
              refine L.m (V := fun x24 => .int .i64 x24) h rfl (Y.addM rfl rfl) (fun x24 ex24 h => ?_)
              refine L.y rfl (Y.assign rfl) ?_
              exact L.nil (E.againJ ⟨gl10, gx11, x24, rfl, rfl, by rw [hg2]; exact h⟩ (Nat.lt_succ_self _) ⟨rfl, rfl, rfl, rfl, trivial⟩ (fun _ hw => hw))
           ·
            rintro _ _ ⟨gl8, gx9, rfl, rfl, h⟩
            rw [m19_order_Deps_K9] at h
            refine W.seq (W.region (L.y rfl (Y.move rfl) ?_))
            refine L.y rfl (Y.move rfl) ?_
            refine L.m (V := fun _ => dropv gv3 gx9.toNat 3) h rfl (Y.dropM (g := TDep.row) Try.underlying49 sz60 rfl rfl (fun w hw => As.at_ (hw.get (i := 0) rfl))) (fun l10 el10 h => ?_)
            refine L.clearM (i := 0) (g := TDep.row) (z0 := (⟨0, 0, 0⟩ : TDep)) (a := gx9) h Try.underlying49 el60 ze60 (fun u hu => ((plain_TDep _) : Plain ([(⟨0, 0, 0⟩ : TDep)].map TDep.row)) _ (List.mem_cons_self ..) u hu) rfl rfl ?_
            intro l11 el11 h
            refine L.nil (E.thenN (W.seq (W.region (L.y rfl (Y.move rfl) ?_))))
            refine L.y rfl (Y.move rfl) ?_
            obtain ⟨l12, el12, h⟩ := bind1S h
            refine L.cutM (i := 0) (g := TDep.row) el12 rfl Try.underlying49 sz60 rfl rfl rfl (fun v13 => ?_)
            refine L.y rfl (Y.assign rfl) ?_
            refine L.nil (E.thenN (W.ret (E.blockR (E.KSR (E.KLR (E.blockR (E.KSR (E.ret1 rfl rfl (fun w1 hw => ?_)))))))))
            exact ⟨_, _, rfl, ⟨v13, l12, rfl, rfl, h⟩, hw⟩
          ·
           refine U.nil (E.thenN (W.condF rfl ?_))
           exact W.skip (E.blockN (E.joinJ ⟨rfl, rfl, h⟩ ⟨rfl, rfl, trivial⟩ (fun _ hw => hw)))
         ·
          rintro _ _ ⟨rfl, rfl, h⟩
          rw [m19_order_Deps_K8] at h
          refine W.region (L.y rfl (Y.move rfl) ?_)
          refine L.m (V := fun x4 => .int .i64 x4) h rfl (Y.addM rfl rfl) (fun x4 ex4 h => ?_)
          refine L.y rfl (Y.assign rfl) ?_
          exact L.nil (E.againJ ⟨x4, rfl, rfl, by rw [hg1]; exact h⟩ (Nat.lt_succ_self _) ⟨rfl, rfl, trivial⟩ (fun _ hw => hw))
       ·
        rintro _ _ ⟨rfl, rfl, h⟩
        rw [m19_order_Deps_K6] at h
        refine W.seq (W.region (L.y rfl (Y.move rfl) ?_))
        refine L.y rfl (Y.assign rfl) ?_
        refine L.nil (E.thenN (W.ret (E.ret1 rfl rfl (fun w1 hw => ?_))))
        exact ⟨_, _, rfl, ⟨gv3, l3, rfl, rfl, h⟩, hw⟩
     ·
      rintro gv5 _ ⟨_, gl6, rfl, rfl, h⟩
      rw [m19_order_Deps_K4] at h
      refine L.y rfl (Y.assign rfl) ?_
      refine L.y rfl (Y.assign rfl) ?_
      refine L.nil (E.thenN (W.ret (E.ret2 rfl rfl rfl (fun w1 hw => ?_))))
      obtain rfl := Option.some.inj h
      exact ⟨_, _, rfl, ⟨_, rfl, rfl⟩, hw⟩
set_option maxRecDepth 100000 in
set_option maxHeartbeats 8000000 in
theorem w109_graph_Check (a0 : Int) (a1 : (List TEdge)) (u1 : Value) (w : World) (r : Int) (h : m109_graph_Check a0 a1 = some r) (hA1 : At w u1 2 (a1.map TEdge.row)) : Does Try.prog 109 [.int .i64 a0, u1] w fun u m => u = .int .i64 r ∧ m = [] := by
  rw [m109_graph_Check] at h
  refine body (n := 43) Try.func109 rfl rfl rfl (Cls.refl w) ?_
  refine W.seq (W.region (L.y rfl (Y.assign rfl) ?_))
  refine L.nil (E.thenN (W.seqJ (fun gs D => gs = [(0, .int .i64 a0), (1, u1)] ∧ D = Cls w [] [] ∧ m109_graph_Check_K1 a1 a0 = some r) ?_ ?_))
  ·
   refine W.seq (W.region (L.y rfl (Y.move rfl) ?_))
   refine L.ite h rfl (Y.lss rfl rfl) (fun c10 h => ?_) (fun c10 h => ?_)
   ·
    refine L.y rfl (Y.move rfl) ?_
    refine L.pass rfl rfl (by nofun) ?_
    refine L.pass rfl rfl (by nofun) ?_
    refine L.y rfl (Y.pickT rfl rfl) ?_
    refine L.nil (E.thenN (W.condT rfl ?_))
    refine W.seq (W.region (L.y rfl (Y.assign rfl) ?_))
    refine L.nil (E.thenN (W.ret (E.KSR (E.ret1 rfl rfl (fun w1 hw => ?_)))))
    obtain rfl := Option.some.inj h
    exact ⟨_, _, rfl, ⟨rfl, rfl⟩, hw⟩
   ·
    refine L.y rfl (Y.move rfl) ?_
    refine L.take rfl (L.y rfl (Y.move rfl) ?_)
    refine L.take rfl (L.ite h rfl (Y.gtr rfl rfl) (fun c11 h => ?_) (fun c11 h => ?_))
    ·
     refine L.y rfl (Y.pickF rfl rfl) ?_
     refine L.nil (E.thenN (W.condT rfl ?_))
     refine W.seq (W.region (L.y rfl (Y.assign rfl) ?_))
     refine L.nil (E.thenN (W.ret (E.KSR (E.ret1 rfl rfl (fun w1 hw => ?_)))))
     obtain rfl := Option.some.inj h
     exact ⟨_, _, rfl, ⟨rfl, rfl⟩, hw⟩
    ·
     refine L.y rfl (Y.pickF rfl rfl) ?_
     refine L.nil (E.thenN (W.condF rfl ?_))
     exact W.skip (E.joinJ ⟨rfl, rfl, h⟩ ⟨rfl, rfl, trivial⟩ (fun _ hw => hw))
  ·
   rintro _ _ ⟨rfl, rfl, h⟩
   rw [m109_graph_Check_K1] at h
   refine W.seqJ (fun gs D => gs = [(0, .int .i64 a0), (1, u1)] ∧ D = Cls w [] [] ∧ m109_graph_Check_K2 a1 a0 = some r) ?_ ?_
   ·
    refine W.seq (W.region (L.y rfl (Y.move rfl) ?_))
    refine L.y rfl (Y.lenM (g := TEdge.row) (l := a1) Try.underlying25 rfl (fun w' hw => hA1.cls0 hw)) ?_
    refine L.ite h rfl (Y.gtr rfl rfl) (fun c9 h => ?_) (fun c9 h => ?_)
    ·
     refine L.nil (E.thenN (W.condT rfl ?_))
     refine W.seq (W.region (L.y rfl (Y.assign rfl) ?_))
     refine L.nil (E.thenN (W.ret (E.KSR (E.ret1 rfl rfl (fun w1 hw => ?_)))))
     obtain rfl := Option.some.inj h
     exact ⟨_, _, rfl, ⟨rfl, rfl⟩, hw⟩
    ·
     refine L.nil (E.thenN (W.condF rfl ?_))
     exact W.skip (E.joinJ ⟨rfl, rfl, h⟩ ⟨rfl, rfl, trivial⟩ (fun _ hw => hw))
   ·
    rintro _ _ ⟨rfl, rfl, h⟩
    rw [m109_graph_Check_K2] at h
    refine W.seqJ (fun gs D => gs = [] ∧ D = Cls w [] [] ∧ m109_graph_Check_K3 = some r) ?_ ?_
    ·
     refine W.seq (W.region (L.y rfl (Y.move rfl) ?_))
     refine L.y rfl (Y.lenM (g := TEdge.row) (l := a1) Try.underlying25 rfl (fun w' hw => hA1.cls0 hw)) ?_
     refine L.y rfl (Y.move rfl) ?_
     refine L.nil (E.thenN (W.block (W.loopJ (fun m gs D => ∃ (gx1 : Int), gs = [(0, .int .i64 a0), (16, u1), (17, .int .i64 (a1.length : Int)), (18, .int .i64 gx1)] ∧ D = Cls w [] [] ∧ m109_graph_Check_L1 a1 a0 m gx1 = some r) ⟨0, rfl, rfl, h⟩ ⟨rfl, rfl, rfl, rfl, trivial⟩ (fun _ hw => hw) ?_)))
     rintro m _ _ ⟨gx1, rfl, rfl, h⟩
     rcases m with _ | m
     · rw [m109_graph_Check_L1] at h; cases h
     rw [m109_graph_Check_L1] at h
     generalize hg1 : m109_graph_Check_L1 a1 a0 m = go1 at h
     rw [m109_graph_Check_L1B] at h
     refine W.seq (W.region (L.ite h rfl (Y.lss rfl rfl) (fun c1 h => ?_) (fun c1 h => ?_)))
     ·
      refine L.nil (E.thenN (W.seq (W.condT rfl ?_)))
      refine W.skip (E.thenN (W.seq (W.block (W.seq (W.region (L.m (V := fun _ => el u1 (gx1.toNat * 2)) h rfl (Y.indexM (g := TEdge.row) (l := a1) Try.underlying25 sz40 rfl rfl (fun w' hw => hA1.cls0 hw)) (fun x2 ex2 h => ?_)))))))
      refine L.y rfl (Y.loadEN (r := [.int .i64 x2.From, .int .i64 x2.To]) ag40 sz40 rfl (fun w' hw => hA1.cls0 hw) (idx_map ex2) rfl) ?_
      refine L.alloc rfl ze40 ?_
      intro b3
      refine L.store (i := 0) sz40 rfl rfl rfl rfl (by simp [Value.oneCell', Value.cells, st]) rfl (Nat.le_of_ble_eq_true rfl) ?_
      refine L.nil (E.thenN (W.seq (W.region (L.cutJ 9 (fun gs D => ∃ (gb2 : Bool), gs = [(0, .int .i64 a0), (6, pt b3 0), (16, u1), (17, .int .i64 (a1.length : Int)), (18, .int .i64 gx1), (30, .bool gb2)] ∧ D = Cls w [] [.obj b3 [.int .i64 x2.From, .int .i64 x2.To] 40] ∧ m109_graph_Check_K4 x2 a0 gx1 go1 gb2 = some r) ?_ ?_))))
      ·
       refine L.y rfl (Y.fieldP fd40_0 rfl) ?_
       refine L.y rfl (Y.loadP (i := 0) ag3 rfl rfl rfl) ?_
       refine L.ite h rfl (Y.lss rfl rfl) (fun c7 h => ?_) (fun c7 h => ?_)
       ·
        refine L.y rfl (Y.move rfl) ?_
        refine L.pass rfl rfl (by nofun) ?_
        refine L.pass rfl rfl (by nofun) ?_
        refine L.pass rfl rfl (by nofun) ?_
        refine L.pass rfl rfl (by nofun) ?_
        refine L.y rfl (Y.pickT rfl rfl) ?_
        exact L.nil (E.joinJ ⟨true, rfl, rfl, h⟩ ⟨rfl, rfl, rfl, rfl, rfl, rfl, trivial⟩ (fun _ hw => hw))
       ·
        refine L.y rfl (Y.move rfl) ?_
        refine L.take rfl (L.y rfl (Y.fieldP fd40_0 rfl) ?_)
        refine L.take rfl (L.y rfl (Y.loadP (i := 0) ag3 rfl rfl rfl) ?_)
        refine L.take rfl (L.y rfl (Y.move rfl) ?_)
        refine L.take rfl (L.ite h rfl (Y.geq rfl rfl) (fun c8 h => ?_) (fun c8 h => ?_))
        ·
         refine L.y rfl (Y.pickF rfl rfl) ?_
         exact L.nil (E.joinJ ⟨true, rfl, rfl, h⟩ ⟨rfl, rfl, rfl, rfl, rfl, rfl, trivial⟩ (fun _ hw => hw))
        ·
         refine L.y rfl (Y.pickF rfl rfl) ?_
         exact L.nil (E.joinJ ⟨false, rfl, rfl, h⟩ ⟨rfl, rfl, rfl, rfl, rfl, rfl, trivial⟩ (fun _ hw => hw))
      ·
       rintro _ _ ⟨gb2, rfl, rfl, h⟩
       rw [m109_graph_Check_K4] at h
       rcases gb2 with _ | _
       ·
        replace h := iteF h
        refine L.y rfl (Y.move rfl) ?_
        refine L.take rfl (L.y rfl (Y.fieldP fd40_1 rfl) ?_)
        refine L.take rfl (L.y rfl (Y.loadP (i := 0) ag3 rfl rfl rfl) ?_)
        refine L.take rfl (L.ite h rfl (Y.lss rfl rfl) (fun c4 h => ?_) (fun c4 h => ?_))
        ·
         refine L.y rfl (Y.pickF rfl rfl) ?_
         refine L.y rfl (Y.move rfl) ?_
         refine L.pass rfl rfl (by nofun) ?_
         refine L.pass rfl rfl (by nofun) ?_
         refine L.pass rfl rfl (by nofun) ?_
         refine L.pass rfl rfl (by nofun) ?_
         refine L.y rfl (Y.pickT rfl rfl) ?_
         refine L.nil (E.thenN (W.condT rfl ?_))
         refine W.seq (W.region (L.y rfl (Y.assign rfl) ?_))
         refine L.nil (E.thenN (W.ret (E.blockR (E.thenR (E.KLR (E.blockR (E.KSR (E.ret1 rfl rfl (fun w1 hw => ?_)))))))))
         obtain rfl := Option.some.inj h
         exact ⟨_, _, rfl, ⟨rfl, rfl⟩, hw.sel [] (by decide) rfl⟩
        ·
         refine L.y rfl (Y.pickF rfl rfl) ?_
         refine L.y rfl (Y.move rfl) ?_
         refine L.take rfl (L.y rfl (Y.fieldP fd40_1 rfl) ?_)
         refine L.take rfl (L.y rfl (Y.loadP (i := 0) ag3 rfl rfl rfl) ?_)
         refine L.take rfl (L.y rfl (Y.move rfl) ?_)
         refine L.take rfl (L.ite h rfl (Y.geq rfl rfl) (fun c5 h => ?_) (fun c5 h => ?_))
         ·
          refine L.y rfl (Y.pickF rfl rfl) ?_
          refine L.nil (E.thenN (W.condT rfl ?_))
          refine W.seq (W.region (L.y rfl (Y.assign rfl) ?_))
          refine L.nil (E.thenN (W.ret (E.blockR (E.thenR (E.KLR (E.blockR (E.KSR (E.ret1 rfl rfl (fun w1 hw => ?_)))))))))
          obtain rfl := Option.some.inj h
          exact ⟨_, _, rfl, ⟨rfl, rfl⟩, hw.sel [] (by decide) rfl⟩
         ·
          refine L.y rfl (Y.pickF rfl rfl) ?_
          refine L.nil (E.thenN (W.condF rfl ?_))
          refine W.skip (E.blockN (E.thenN (W.region (L.m (V := fun x6 => .int .i64 x6) h rfl (Y.addM rfl rfl) (fun x6 ex6 h => ?_)))))
          refine L.y rfl (Y.move rfl) ?_
          exact L.nil (E.againJ ⟨x6, rfl, rfl, by rw [hg1]; exact h⟩ (Nat.lt_succ_self _) ⟨rfl, rfl, rfl, rfl, trivial⟩ (fun _ hw => hw.sel [] (by decide) rfl))
       ·
        replace h := iteT h
        refine L.y rfl (Y.move rfl) ?_
        refine L.pass rfl rfl (by nofun) ?_
        refine L.pass rfl rfl (by nofun) ?_
        refine L.pass rfl rfl (by nofun) ?_
        refine L.y rfl (Y.pickT rfl rfl) ?_
        refine L.y rfl (Y.move rfl) ?_
        refine L.pass rfl rfl (by nofun) ?_
        refine L.pass rfl rfl (by nofun) ?_
        refine L.pass rfl rfl (by nofun) ?_
        refine L.pass rfl rfl (by nofun) ?_
        refine L.y rfl (Y.pickT rfl rfl) ?_
        refine L.nil (E.thenN (W.condT rfl ?_))
        refine W.seq (W.region (L.y rfl (Y.assign rfl) ?_))
        refine L.nil (E.thenN (W.ret (E.blockR (E.thenR (E.KLR (E.blockR (E.KSR (E.ret1 rfl rfl (fun w1 hw => ?_)))))))))
        obtain rfl := Option.some.inj h
        exact ⟨_, _, rfl, ⟨rfl, rfl⟩, hw.sel [] (by decide) rfl⟩
     ·
      refine L.nil (E.thenN (W.seq (W.condF rfl ?_)))
      exact W.exit (E.thenX (E.KLX (E.blockX (E.joinJ ⟨rfl, rfl, h⟩ trivial (fun _ hw => hw)))))
    ·
     rintro _ _ ⟨rfl, rfl, h⟩
     rw [m109_graph_Check_K3] at h
     refine W.seq (W.region (L.y rfl (Y.assign rfl) ?_))
     refine L.nil (E.thenN (W.ret (E.ret1 rfl rfl (fun w1 hw => ?_))))
     obtain rfl := Option.some.inj h
     exact ⟨_, _, rfl, ⟨rfl, rfl⟩, hw⟩
set_option maxRecDepth 100000 in
set_option maxHeartbeats 8000000 in
theorem w110_graph_next (a0 : Int) (a1 : (List TEdge)) (u1 : Value) (w : World) (r : (List (List Int))) (h : m110_graph_next a0 a1 = some r) (hA1 : At w u1 2 (a1.map TEdge.row)) : Does Try.prog 110 [.int .i64 a0, u1] w fun u m => ∃ v0 q0, u = v0 ∧ m = [.sl v0 28 1 (zr svRow q0 r), .ss (zs (svSd 3 1 I) q0 r)] := by
  rw [m110_graph_next] at h
  refine body (n := 51) Try.func110 rfl rfl rfl (Cls.refl w) ?_
  refine W.seq (W.region (L.y rfl (Y.assign rfl) ?_))
  refine L.nil (E.thenN (W.seq (W.region (L.y rfl (Y.move rfl) ?_))))
  obtain ⟨l1, el1, h⟩ := bind1S h
  refine L.makeZ (row := svRow) (sds := (svSd 3 1 I)) (nv := [nilV]) (z0 := ([] : (List Int))) el1 rfl Try.underlying45 el28 ze28 rfl rfl rfl (gall1 rfl rfl gall0) ?_
  intro b2
  refine L.y rfl (Y.assign rfl) ?_
  refine L.nil (E.thenN (W.seqJ (fun gs D => ∃ (gl1 : (List (List Int))) (gq2 : Nat → List Value), gs = [(5, (sv b2 a0.toNat))] ∧ D = Cls w [] [.sl (sv b2 a0.toNat) 28 1 (zr svRow gq2 gl1), .ss (zs (svSd 3 1 I) gq2 gl1)] ∧ m110_graph_next_K1 gl1 = some r) ?_ ?_))
  ·
   refine W.seq (W.region (L.y rfl (Y.move rfl) ?_))
   refine L.y rfl (Y.lenM (g := TEdge.row) (l := a1) Try.underlying25 rfl (fun w' hw => hA1.cls0 hw)) ?_
   refine L.y rfl (Y.move rfl) ?_
   refine L.nil (E.thenN (W.block (W.loopJ (fun m gs D => ∃ (gl8 : (List (List Int))) (gq9 : Nat → List Value) (gx10 : Int), gs = [(5, (sv b2 a0.toNat)), (11, u1), (12, .int .i64 (a1.length : Int)), (13, .int .i64 gx10)] ∧ D = Cls w [] [.sl (sv b2 a0.toNat) 28 1 (zr svRow gq9 gl8), .ss (zs (svSd 3 1 I) gq9 gl8)] ∧ m110_graph_next_L2 a1 m gl8 gx10 = some r) ⟨l1, (fun _ => [nilV]), 0, rfl, rfl, h⟩ ⟨rfl, rfl, rfl, rfl, trivial⟩ (fun _ hw => hw) ?_)))
   rintro m _ _ ⟨gl8, gq9, gx10, rfl, rfl, h⟩
   rcases m with _ | m
   · rw [m110_graph_next_L2] at h; cases h
   rw [m110_graph_next_L2] at h
   generalize hg2 : m110_graph_next_L2 a1 m = go2 at h
   rw [m110_graph_next_L2B] at h
   refine W.seq (W.region (L.ite h rfl (Y.lss rfl rfl) (fun c14 h => ?_) (fun c14 h => ?_)))
   ·
    refine L.nil (E.thenN (W.seq (W.condT rfl ?_)))
    refine W.skip (E.thenN (W.seq (W.block (W.seq (W.region (L.m (V := fun _ => el u1 (gx10.toNat * 2)) h rfl (Y.indexM (g := TEdge.row) (l := a1) Try.underlying25 sz40 rfl rfl (fun w' hw => hA1.cls0 hw)) (fun x15 ex15 h => ?_)))))))
    refine L.y rfl (Y.loadEN (r := [.int .i64 x15.From, .int .i64 x15.To]) ag40 sz40 rfl (fun w' hw => hA1.cls0 hw) (idx_map ex15) rfl) ?_
    refine L.alloc rfl ze40 ?_
    intro b16
    refine L.store (i := 0) sz40 rfl rfl rfl rfl (by simp [Value.oneCell', Value.cells, st]) rfl (Nat.le_of_ble_eq_true rfl) ?_
    refine L.nil (E.thenN (W.drawn2 (k := 14) (stC [[11, 13], [13]] [Cls w [] [.obj b16 [.int .i64 x15.From, .int .i64 x15.To] 40, .sl (sv b2 a0.toNat) 28 1 (zr svRow gq9 gl8), .ss (zs (svSd 3 1 I) gq9 gl8)], Cls w [] [.obj b16 [.int .i64 x15.From, .int .i64 x15.To] 40, .sl (sv b2 a0.toNat) 28 1 (zr svRow gq9 gl8)]] (Cls w [] [.obj b16 [.int .i64 x15.From, .int .i64 x15.To] 40])) rfl mixed (fun _ hw => hw.drew) (Sc.now (by kernel_rfl) (fun _ hw => hw)) ?_))
    refine V2.y (i := 0) (Nx2.of (Z := Cls w [] [.obj b16 [.int .i64 x15.From, .int .i64 x15.To] 40]) [] (by kernel_rfl) rfl (Zc.on (fun _ hw => hw.sel [0] (by decide) rfl) (Zc.on (fun _ hw => hw.sel [0] (by decide) rfl) (Zc.fin (fun _ hw => hw))))) rfl rfl rfl (Y.move rfl) ?_
    refine V2.y (i := 1) (Nx2.of (Z := Cls w [] [.obj b16 [.int .i64 x15.From, .int .i64 x15.To] 40]) [] (by kernel_rfl) rfl (Zc.on (fun _ hw => hw.sel [0] (by decide) rfl) (Zc.on (fun _ hw => hw.sel [0] (by decide) rfl) (Zc.fin (fun _ hw => hw))))) rfl rfl rfl (Y.fieldP fd40_0 rfl) ?_
    refine V2.y (i := 2) (Nx2.of (Z := Cls w [] [.obj b16 [.int .i64 x15.From, .int .i64 x15.To] 40]) [] (by kernel_rfl) rfl (Zc.on (fun _ hw => hw.sel [0] (by decide) rfl) (Zc.on (fun _ hw => hw.sel [0] (by decide) rfl) (Zc.fin (fun _ hw => hw))))) rfl rfl rfl (Y.loadP (i := 0) ag3 rfl rfl rfl) ?_
    refine V2.y (i := 3) (Nx2.of (Z := Cls w [] [.obj b16 [.int .i64 x15.From, .int .i64 x15.To] 40]) [] (by kernel_rfl) rfl (Zc.on (fun _ hw => hw.sel [0] (by decide) rfl) (Zc.on (fun _ hw => hw.sel [0] (by decide) rfl) (Zc.fin (fun _ hw => hw))))) rfl rfl rfl (Y.move rfl) ?_
    refine V2.y (i := 4) (Nx2.of (Z := Cls w [] [.obj b16 [.int .i64 x15.From, .int .i64 x15.To] 40]) [] (by kernel_rfl) rfl (Zc.on (fun _ hw => hw.sel [0] (by decide) rfl) (Zc.on (fun _ hw => hw.sel [0] (by decide) rfl) (Zc.fin (fun _ hw => hw))))) rfl rfl rfl (Y.fieldP fd40_0 rfl) ?_
    refine V2.y (i := 5) (Nx2.of (Z := Cls w [] [.obj b16 [.int .i64 x15.From, .int .i64 x15.To] 40]) [] (by kernel_rfl) rfl (Zc.on (fun _ hw => hw.sel [0] (by decide) rfl) (Zc.on (fun _ hw => hw.sel [0] (by decide) rfl) (Zc.fin (fun _ hw => hw))))) rfl rfl rfl (Y.loadP (i := 0) ag3 rfl rfl rfl) ?_
    refine V2.m (i := 6) (V' := fun _ => el (sv b2 a0.toNat) (x15.From.toNat * 1)) h (Nx2.of (Z := Cls w [] [.obj b16 [.int .i64 x15.From, .int .i64 x15.To] 40, .sl (sv b2 a0.toNat) 28 1 (zr svRow gq9 gl8)]) [13] (by kernel_rfl) rfl (Zc.on (fun _ hw => hw.sel [0, 1] (by decide) rfl) (Zc.at1 (fun _ hw => hw)))) rfl rfl rfl (Y.indexMZ (row := svRow) (vs := gq9) (l := gl8) Try.underlying45 sz28 rfl rfl (fun w hw => As.at_ (hw.get (i := 1) rfl))) (fun x35 ex35 h => ?_)
    refine V2.y (i := 7) (Nx2.of (Z := Cls w [] [.obj b16 [.int .i64 x15.From, .int .i64 x15.To] 40, .sl (sv b2 a0.toNat) 28 1 (zr svRow gq9 gl8)]) [13] (by kernel_rfl) rfl (Zc.on (fun _ hw => hw.sel [0, 1] (by decide) rfl) (Zc.at1 (fun _ hw => hw)))) rfl rfl rfl (Y.loadE1 (u := gv (gq9 x15.From.toNat) 0) ag28 rfl (fun w hw => As.at_ (hw.get (i := 1) rfl)) (zr_idx (vs := gq9) ex35)) ?_
    refine V2.y (i := 8) (Nx2.of (Z := Cls w [] [.obj b16 [.int .i64 x15.From, .int .i64 x15.To] 40]) [] (by kernel_rfl) rfl (Zc.on (fun _ hw => hw.sel [0] (by decide) rfl) (Zc.on (fun _ hw => hw.sel [0] (by decide) rfl) (Zc.fin (fun _ hw => hw))))) rfl rfl rfl (Y.fieldP fd40_1 rfl) ?_
    refine V2.y (i := 9) (Nx2.of (Z := Cls w [] [.obj b16 [.int .i64 x15.From, .int .i64 x15.To] 40]) [] (by kernel_rfl) rfl (Zc.on (fun _ hw => hw.sel [0] (by decide) rfl) (Zc.on (fun _ hw => hw.sel [0] (by decide) rfl) (Zc.fin (fun _ hw => hw))))) rfl rfl rfl (Y.loadP (i := 0) ag3 rfl rfl rfl) ?_
    refine V2.eff (i := 10) (by kernel_rfl) rfl ?_
    refine L.litOne rfl Try.underlying28 el3 rfl rfl ?_
    intro b36
    refine L.nil (E.toV2 (stC [[11, 13], [13]] [Cls w [] [.sl (sv b36 1) 3 1 (([x15.To]).map I), .obj b16 [.int .i64 x15.From, .int .i64 x15.To] 40, .sl (sv b2 a0.toNat) 28 1 (zr svRow gq9 gl8), .ss (zs (svSd 3 1 I) gq9 gl8)], Cls w [] [.sl (sv b36 1) 3 1 (([x15.To]).map I), .obj b16 [.int .i64 x15.From, .int .i64 x15.To] 40, .sl (sv b2 a0.toNat) 28 1 (zr svRow gq9 gl8)]] (Cls w [] [.sl (sv b36 1) 3 1 (([x15.To]).map I), .obj b16 [.int .i64 x15.From, .int .i64 x15.To] 40])) 10 (by kernel_rfl) (Sc.stay (fun _ hw => hw.sel [1, 2, 3] (by decide) rfl) (Sc.stay (fun _ hw => hw.sel [1, 2] (by decide) rfl) (Sc.stayD (fun _ hw => hw.sel [1] (by decide) rfl)))) (Sc.now (by kernel_rfl) (fun _ hw => hw)) ?_)
    refine V2.eff (i := 11) (by kernel_rfl) rfl ?_
    refine L.ssOut (sds := (svSd 3 1 I)) (vs := gq9) (s := 3) (j := 0) (c := 1) rfl (fun _ _ => rfl) ex35 rfl ?_
    refine L.appM (i := 0) (g := I) (l := x35) (more := [x15.To]) h rfl Try.underlying28 el3 rfl rfl rfl (fun w hw => As.at_ (hw.get (i := 1) rfl)) (plain_ints _) rfl ?_
    intro v37 l38 el38 h
    refine L.nil (E.toV2 (stC [[13]] [Cls w [] [.sl v37 3 1 (l38.map I), .sl (sv b36 1) 3 1 (([x15.To]).map I), .obj b16 [.int .i64 x15.From, .int .i64 x15.To] 40, .sl (sv b2 a0.toNat) 28 1 (zr svRow gq9 gl8)]] (Cls w [] [.sl (sv b36 1) 3 1 (([x15.To]).map I), .obj b16 [.int .i64 x15.From, .int .i64 x15.To] 40])) 11 (by kernel_rfl) (Sc.past rfl (Sc.stay (fun _ hw => hw.sel [1, 2, 3] (by decide) rfl) (Sc.stayD (fun _ hw => hw)))) (Sc.now (by kernel_rfl) (fun _ hw => hw.sel [0, 1, 2, 3] (by decide) rfl)) ?_)
    refine V2.m (i := 12) (V' := fun _ => el (sv b2 a0.toNat) (x15.From.toNat * 1)) h (Nx2.of (Z := Cls w [] [.sl v37 3 1 (l38.map I), .sl (sv b36 1) 3 1 (([x15.To]).map I), .obj b16 [.int .i64 x15.From, .int .i64 x15.To] 40, .sl (sv b2 a0.toNat) 28 1 (zr svRow gq9 gl8)]) [13] (by kernel_rfl) rfl (Zc.at1 (fun _ hw => hw))) rfl rfl rfl (Y.indexMZ (row := svRow) (vs := gq9) (l := gl8) Try.underlying45 sz28 rfl rfl (fun w hw => As.at_ (hw.get (i := 3) rfl))) (fun x39 ex39 h => ?_)
    refine V2.eff (i := 13) (by kernel_rfl) rfl ?_
    refine L.storeSlZS (row := svRow) (sds := (svSd 3 1 I)) (vs := gq9) (q := 3) (p := 0) (s := 4) (c := 1) (jj := 0) (u1 := l38) (v1 := [v37]) (j := 0) h sz28 rfl rfl rfl rfl rfl rfl (.inr rfl) (fun _ _ => rfl) (fun _ _ => rfl) ex39 rfl rfl rfl rfl (by decide) ?_
    intro l40 q41 el40 h
    refine L.nil (E.toV2 (stC [] [] (Cls w [] [.sl (sv b36 1) 3 1 (([x15.To]).map I), .obj b16 [.int .i64 x15.From, .int .i64 x15.To] 40])) 13 (by kernel_rfl) (Sc.past rfl (Sc.stayD (fun _ hw => hw))) (Sc.atD (fun _ hw => hw.sel [0, 1] (by decide) rfl)) ?_)
    refine V2.done (by kernel_rfl) ?_
    refine E.blockN (E.thenN (W.region (L.m (V := fun x42 => .int .i64 x42) h rfl (Y.addM rfl rfl) (fun x42 ex42 h => ?_))))
    refine L.y rfl (Y.move rfl) ?_
    exact L.nil (E.againJ ⟨l40, q41, x42, rfl, rfl, by rw [hg2]; exact h⟩ (Nat.lt_succ_self _) ⟨rfl, rfl, rfl, rfl, trivial⟩ (fun _ hw => hw.sel [2, 3] (by decide) rfl))
   ·
    refine L.nil (E.thenN (W.seq (W.condF rfl ?_)))
    exact W.exit (E.thenX (E.KLX (E.blockX (E.joinJ ⟨gl8, gq9, rfl, rfl, h⟩ ⟨rfl, trivial⟩ (fun _ hw => hw)))))
  ·
   rintro _ _ ⟨gl1, gq2, rfl, rfl, h⟩
   rw [m110_graph_next_K1] at h
   refine W.seqJ (fun gs D => ∃ (gl3 : (List (List Int))) (gq4 : Nat → List Value), gs = [(5, (sv b2 a0.toNat))] ∧ D = Cls w [] [.sl (sv b2 a0.toNat) 28 1 (zr svRow gq4 gl3), .ss (zs (svSd 3 1 I) gq4 gl3)] ∧ m110_graph_next_K2 gl3 = some r) ?_ ?_
   ·
    refine W.seq (W.region (L.y rfl (Y.move rfl) ?_))
    refine L.y rfl (Y.lenMZ (row := svRow) (vs := gq2) (l := gl1) Try.underlying45 rfl (fun w hw => As.at_ (hw.get (i := 0) rfl))) ?_
    refine L.y rfl (Y.move rfl) ?_
    refine L.nil (E.thenN (W.block (W.loopJ (fun m gs D => ∃ (gl5 : (List (List Int))) (gq6 : Nat → List Value) (gx7 : Int), gs = [(5, (sv b2 a0.toNat)), (32, .int .i64 (gl1.length : Int)), (33, .int .i64 gx7)] ∧ D = Cls w [] [.sl (sv b2 a0.toNat) 28 1 (zr svRow gq6 gl5), .ss (zs (svSd 3 1 I) gq6 gl5)] ∧ m110_graph_next_L1 gl1 m gl5 gx7 = some r) ⟨gl1, gq2, 0, rfl, rfl, h⟩ ⟨rfl, rfl, rfl, trivial⟩ (fun _ hw => hw) ?_)))
    rintro m _ _ ⟨gl5, gq6, gx7, rfl, rfl, h⟩
    rcases m with _ | m
    · rw [m110_graph_next_L1] at h; cases h
    rw [m110_graph_next_L1] at h
    generalize hg1 : m110_graph_next_L1 gl1 m = go1 at h
    rw [m110_graph_next_L1B] at h
    refine W.seq (W.region (L.ite h rfl (Y.lss rfl rfl) (fun c3 h => ?_) (fun c3 h => ?_)))
    ·
     refine L.nil (E.thenN (W.seq (W.condT rfl ?_)))
     refine W.skip (E.thenN (W.seq (W.block (W.seq (W.region (L.y rfl (Y.move rfl) ?_))))))
     refine L.y rfl (Y.assign rfl) ?_
     refine L.nil (E.thenN (W.seq (W.region (L.y rfl (Y.move rfl) ?_))))
     refine L.y rfl (Y.move rfl) ?_
     refine L.m (V := fun _ => el (sv b2 a0.toNat) (gx7.toNat * 1)) h rfl (Y.indexMZ (row := svRow) (vs := gq6) (l := gl5) Try.underlying45 sz28 rfl rfl (fun w hw => As.at_ (hw.get (i := 0) rfl))) (fun x4 ex4 h => ?_)
     refine L.y rfl (Y.loadE1 (u := gv (gq6 gx7.toNat) 0) ag28 rfl (fun w hw => As.at_ (hw.get (i := 0) rfl)) (zr_idx (vs := gq6) ex4)) ?_
     refine L.ssOut (sds := (svSd 3 1 I)) (vs := gq6) (s := 1) (j := 0) (c := 1) rfl (fun _ _ => rfl) ex4 rfl ?_
     refine L.sortMD (i := 0) (l := x4) h wSort rfl en130 rfl rfl ?_
     intro l5 el5 h
     refine L.ssBack (row := svRow) (sds := (svSd 3 1 I)) (vs := gq6) (p := 0) (s := 2) (q := 1) (c := 1) (jj := 0) (u1 := l5) (fun z => .sl (sv b2 a0.toNat) 28 1 z) h rfl rfl rfl (fun _ _ => rfl) ex4 rfl rfl rfl ?_
     intro l6 el6 h
     refine L.nil (E.thenN (W.region (L.y rfl (Y.move rfl) ?_)))
     refine L.y rfl (Y.move rfl) ?_
     refine L.y rfl (Y.move rfl) ?_
     refine L.y rfl (Y.move rfl) ?_
     refine L.m (V := fun _ => el (sv b2 a0.toNat) (gx7.toNat * 1)) h rfl (Y.indexMZ (row := svRow) (vs := gq6) (l := l6) Try.underlying45 sz28 rfl rfl (fun w hw => As.at_ (hw.get (i := 0) rfl))) (fun x7 ex7 h => ?_)
     refine L.y rfl (Y.loadE1 (u := gv (gq6 gx7.toNat) 0) ag28 rfl (fun w hw => As.at_ (hw.get (i := 0) rfl)) (zr_idx (vs := gq6) ex7)) ?_
     refine L.ssOut (sds := (svSd 3 1 I)) (vs := gq6) (s := 1) (j := 0) (c := 1) rfl (fun _ _ => rfl) ex7 rfl ?_
     refine L.compactMD (i := 0) (l := x7) h wCompact rfl en131 rfl rfl ?_
     intro v9 l8 el8 h
     refine L.m (V := fun _ => el (sv b2 a0.toNat) (gx7.toNat * 1)) h rfl (Y.indexMZ (row := svRow) (vs := gq6) (l := l6) Try.underlying45 sz28 rfl rfl (fun w hw => As.at_ (hw.get (i := 1) rfl))) (fun x10 ex10 h => ?_)
     refine L.storeSlZS (row := svRow) (sds := (svSd 3 1 I)) (vs := gq6) (q := 1) (p := 0) (s := 2) (c := 1) (jj := 0) (u1 := l8) (v1 := [v9]) (j := 0) h sz28 rfl rfl rfl rfl rfl rfl (.inr rfl) (fun _ _ => rfl) (fun _ _ => rfl) ex10 rfl rfl rfl rfl (by decide) ?_
     intro l11 q12 el11 h
     refine L.nil (E.blockN (E.thenN (W.region (L.m (V := fun x13 => .int .i64 x13) h rfl (Y.addM rfl rfl) (fun x13 ex13 h => ?_)))))
     refine L.y rfl (Y.move rfl) ?_
     exact L.nil (E.againJ ⟨l11, q12, x13, rfl, rfl, by rw [hg1]; exact h⟩ (Nat.lt_succ_self _) ⟨rfl, rfl, rfl, trivial⟩ (fun _ hw => hw))
    ·
     refine L.nil (E.thenN (W.seq (W.condF rfl ?_)))
     exact W.exit (E.thenX (E.KLX (E.blockX (E.joinJ ⟨gl5, gq6, rfl, rfl, h⟩ ⟨rfl, trivial⟩ (fun _ hw => hw)))))
   ·
    rintro _ _ ⟨gl3, gq4, rfl, rfl, h⟩
    rw [m110_graph_next_K2] at h
    refine W.seq (W.region (L.y rfl (Y.move rfl) ?_))
    refine L.y rfl (Y.assign rfl) ?_
    refine L.nil (E.thenN (W.ret (E.ret1 rfl rfl (fun w1 hw => ?_))))
    obtain rfl := Option.some.inj h
    exact ⟨_, _, rfl, ⟨_, _, rfl, rfl⟩, hw⟩
set_option maxRecDepth 100000 in
set_option maxHeartbeats 8000000 in
theorem w42_graph_Order (a0 : Int) (a1 : (List TEdge)) (u1 : Value) (w : World) (r : ((List Int) × Int)) (h : m42_graph_Order a0 a1 = some r) (hA1 : At w u1 2 (a1.map TEdge.row)) : Does Try.prog 42 [.int .i64 a0, u1] w fun u m => ∃ v0, u = .tuple #[v0, .int .i64 r.2] ∧ m = [.sl v0 3 1 (r.1.map I)] := by
  rw [m42_graph_Order] at h
  refine body (n := 80) Try.func42 rfl rfl rfl (Cls.refl w) ?_
  refine W.seq (W.region (L.y rfl (Y.assign rfl) ?_))
  refine L.y rfl (Y.assign rfl) ?_
  refine L.nil (E.thenN (W.seqJ (fun gs D => gs = [(0, .int .i64 a0), (1, u1)] ∧ D = Cls w [] [] ∧ m42_graph_Order_K1 a0 a1 = some r) ?_ ?_))
  ·
   refine W.seq (W.region (L.y rfl (Y.move rfl) ?_))
   refine L.y rfl (Y.move rfl) ?_
   obtain ⟨x34, e35, h⟩ := bind1S h
   refine L.y rfl (Y.does en109 rfl (fun w' hw => (w109_graph_Check a0 a1 u1 w' _ e35 (hA1.cls0 hw)).mono (fun _ _ h => h.1))) ?_
   refine L.y rfl (Y.assign rfl) ?_
   refine L.nil (E.thenN (W.seq (W.region (L.y rfl (Y.move rfl) ?_))))
   refine L.ite h rfl (Y.neq rfl rfl) (fun c36 h => ?_) (fun c36 h => ?_)
   ·
    refine L.nil (E.thenN (W.condT rfl ?_))
    refine W.seq (W.region (L.y rfl (Y.move rfl) ?_))
    refine L.y rfl (Y.assign rfl) ?_
    refine L.y rfl (Y.assign rfl) ?_
    refine L.nil (E.thenN (W.ret (E.KSR (E.ret2 rfl rfl rfl (fun w1 hw => ?_)))))
    obtain rfl := Option.some.inj h
    exact ⟨_, _, rfl, ⟨_, rfl, rfl⟩, (hw.nilSl 3 1)⟩
   ·
    refine L.nil (E.thenN (W.condF rfl ?_))
    exact W.skip (E.joinJ ⟨rfl, rfl, h⟩ ⟨rfl, rfl, trivial⟩ (fun _ hw => hw))
  ·
   rintro _ _ ⟨rfl, rfl, h⟩
   rw [m42_graph_Order_K1] at h
   refine W.seq (W.region (L.y rfl (Y.move rfl) ?_))
   refine L.y rfl (Y.move rfl) ?_
   obtain ⟨l1, e4, h⟩ := bind1S h
   refine L.does rfl en110 rfl (fun w' hw => w110_graph_next a0 a1 u1 w' _ e4 (hA1.cls0 hw)) ?_
   rintro v2 _ ⟨_, q3, rfl, rfl⟩
   refine L.y rfl (Y.assign rfl) ?_
   refine L.nil (E.thenN (W.seq (W.region (L.y rfl (Y.move rfl) ?_))))
   obtain ⟨l5, el5, h⟩ := bind1S h
   refine L.makeE (row := I) (z0 := 0) el5 rfl Try.underlying28 el3 ze3 rfl rfl rfl ?_
   intro b6
   refine L.y rfl (Y.assign rfl) ?_
   refine L.nil (E.thenN (W.seqJ (fun gs D => ∃ (gl1 : (List Int)), gs = [(0, .int .i64 a0), (7, v2), (8, (sv b6 a0.toNat))] ∧ D = Cls w [] [.sl v2 28 1 (zr svRow q3 l1), .ss (zs (svSd 3 1 I) q3 l1), .sl (sv b6 a0.toNat) 3 1 (gl1.map I)] ∧ m42_graph_Order_K2 a0 l1 gl1 = some r) ?_ ?_))
   ·
    refine W.seq (W.region (L.y rfl (Y.move rfl) ?_))
    refine L.y rfl (Y.lenMZ (row := svRow) (vs := q3) (l := l1) Try.underlying45 rfl (fun w hw => As.at_ (hw.get (i := 1) rfl))) ?_
    refine L.y rfl (Y.move rfl) ?_
    refine L.nil (E.thenN (W.block (W.loopJ (fun m gs D => ∃ (gl10 : (List Int)) (gx11 : Int), gs = [(0, .int .i64 a0), (7, v2), (8, (sv b6 a0.toNat)), (28, v2), (29, .int .i64 (l1.length : Int)), (30, .int .i64 gx11)] ∧ D = Cls w [] [.sl v2 28 1 (zr svRow q3 l1), .ss (zs (svSd 3 1 I) q3 l1), .sl (sv b6 a0.toNat) 3 1 (gl10.map I)] ∧ m42_graph_Order_L3 l1 a0 m gl10 gx11 = some r) ⟨l5, 0, rfl, rfl, h⟩ ⟨rfl, rfl, rfl, rfl, rfl, rfl, trivial⟩ (fun _ hw => hw.sel [1, 2, 0] (by decide) rfl) ?_)))
    rintro m _ _ ⟨gl10, gx11, rfl, rfl, h⟩
    rcases m with _ | m
    · rw [m42_graph_Order_L3] at h; cases h
    rw [m42_graph_Order_L3] at h
    generalize hg3 : m42_graph_Order_L3 l1 a0 m = go3 at h
    rw [m42_graph_Order_L3B] at h
    refine W.seq (W.region (L.ite h rfl (Y.lss rfl rfl) (fun c24 h => ?_) (fun c24 h => ?_)))
    ·
     refine L.nil (E.thenN (W.seq (W.condT rfl ?_)))
     refine W.skip (E.thenN (W.seqJ (fun gs D => ∃ (gl12 : (List Int)), gs = [(0, .int .i64 a0), (7, v2), (8, (sv b6 a0.toNat)), (28, v2), (29, .int .i64 (l1.length : Int)), (30, .int .i64 gx11)] ∧ D = Cls w [] [.sl v2 28 1 (zr svRow q3 l1), .ss (zs (svSd 3 1 I) q3 l1), .sl (sv b6 a0.toNat) 3 1 (gl12.map I)] ∧ m42_graph_Order_K7 gx11 go3 gl12 = some r) ?_ ?_))
     ·
      refine W.block (W.seq (W.region (L.m (V := fun _ => el v2 (gx11.toNat * 1)) h rfl (Y.indexMZ (row := svRow) (vs := q3) (l := l1) Try.underlying45 sz28 rfl rfl (fun w hw => As.at_ (hw.get (i := 0) rfl))) (fun x26 ex26 h => ?_))))
      refine L.y rfl (Y.loadE1 (u := gv (q3 gx11.toNat) 0) ag28 rfl (fun w hw => As.at_ (hw.get (i := 0) rfl)) (zr_idx (vs := q3) ex26)) ?_
      refine L.y rfl (Y.assign rfl) ?_
      refine L.nil (E.thenN (W.seq (W.region (L.y rfl (Y.move rfl) ?_))))
      refine L.y rfl (Y.lenM (g := I) (l := x26) Try.underlying28 rfl (fun w hw => As.atZ (sds := (svSd 3 1 I)) (vs := q3) (j := 0) (hw.get (i := 1) rfl) (fun _ _ => rfl) ex26 rfl)) ?_
      refine L.y rfl (Y.move rfl) ?_
      refine L.nil (E.thenN (W.block (W.loopJ (fun m gs D => ∃ (gl13 : (List Int)) (gx14 : Int), gs = [(0, .int .i64 a0), (7, v2), (8, (sv b6 a0.toNat)), (28, v2), (29, .int .i64 (l1.length : Int)), (30, .int .i64 gx11), (34, gv (q3 gx11.toNat) 0), (35, .int .i64 (x26.length : Int)), (36, .int .i64 gx14)] ∧ D = Cls w [] [.sl v2 28 1 (zr svRow q3 l1), .ss (zs (svSd 3 1 I) q3 l1), .sl (sv b6 a0.toNat) 3 1 (gl13.map I)] ∧ m42_graph_Order_L4 x26 gx11 go3 m gl13 gx14 = some r) ⟨gl10, 0, rfl, rfl, h⟩ ⟨rfl, rfl, rfl, rfl, rfl, rfl, rfl, rfl, rfl, trivial⟩ (fun _ hw => hw) ?_)))
      rintro m _ _ ⟨gl13, gx14, rfl, rfl, h⟩
      rcases m with _ | m
      · rw [m42_graph_Order_L4] at h; cases h
      rw [m42_graph_Order_L4] at h
      generalize hg4 : m42_graph_Order_L4 x26 gx11 go3 m = go4 at h
      rw [m42_graph_Order_L4B] at h
      refine W.seq (W.region (L.ite h rfl (Y.lss rfl rfl) (fun c27 h => ?_) (fun c27 h => ?_)))
      ·
       refine L.nil (E.thenN (W.seq (W.condT rfl ?_)))
       refine W.skip (E.thenN (W.seq (W.block (W.seq (W.region (L.m (V := fun _ => el (gv (q3 gx11.toNat) 0) (gx14.toNat * 1)) h rfl (Y.indexM (g := I) (l := x26) Try.underlying28 sz3 rfl rfl (fun w hw => As.atZ (sds := (svSd 3 1 I)) (vs := q3) (j := 0) (hw.get (i := 1) rfl) (fun _ _ => rfl) ex26 rfl)) (fun x28 ex28 h => ?_)))))))
       refine L.y rfl (Y.loadE1 (u := .int .i64 x28) ag3 rfl (fun w hw => As.atZ (sds := (svSd 3 1 I)) (vs := q3) (j := 0) (hw.get (i := 1) rfl) (fun _ _ => rfl) ex26 rfl) (idx_map ex28)) ?_
       refine L.y rfl (Y.assign rfl) ?_
       refine L.nil (E.thenN (W.region (L.y rfl (Y.move rfl) ?_)))
       refine L.y rfl (Y.move rfl) ?_
       refine L.m (V := fun _ => el (sv b6 a0.toNat) (x28.toNat * 1)) h rfl (Y.indexM (g := I) (l := gl13) Try.underlying28 sz3 rfl rfl (fun w hw => As.at_ (hw.get (i := 2) rfl))) (fun x29 ex29 h => ?_)
       refine L.y rfl (Y.loadE1 (u := .int .i64 x29) ag3 rfl (fun w hw => As.at_ (hw.get (i := 2) rfl)) (idx_map ex29)) ?_
       refine L.m (V := fun x30 => .int .i64 x30) h rfl (Y.addM rfl rfl) (fun x30 ex30 h => ?_)
       refine L.m (V := fun _ => el (sv b6 a0.toNat) (x28.toNat * 1)) h rfl (Y.indexM (g := I) (l := gl13) Try.underlying28 sz3 rfl rfl (fun w hw => As.at_ (hw.get (i := 2) rfl))) (fun x31 ex31 h => ?_)
       refine L.storeSlM (q := 2) (row := I) (vs := [.int .i64 x30]) (j := 0) (u1 := x30) h sz3 rfl rfl rfl rfl rfl (all1 rfl all0) rfl ex31 rfl rfl ?_
       intro l32 el32 h
       refine L.nil (E.blockN (E.thenN (W.region (L.m (V := fun x33 => .int .i64 x33) h rfl (Y.addM rfl rfl) (fun x33 ex33 h => ?_)))))
       refine L.y rfl (Y.move rfl) ?_
       exact L.nil (E.againJ ⟨l32, x33, rfl, rfl, by rw [hg4]; exact h⟩ (Nat.lt_succ_self _) ⟨rfl, rfl, rfl, rfl, rfl, rfl, rfl, rfl, rfl, trivial⟩ (fun _ hw => hw))
      ·
       refine L.nil (E.thenN (W.seq (W.condF rfl ?_)))
       exact W.exit (E.thenX (E.KLX (E.blockX (E.blockN (E.joinJ ⟨gl13, rfl, rfl, h⟩ ⟨rfl, rfl, rfl, rfl, rfl, rfl, trivial⟩ (fun _ hw => hw))))))
     ·
      rintro _ _ ⟨gl12, rfl, rfl, h⟩
      rw [m42_graph_Order_K7] at h
      refine W.region (L.m (V := fun x25 => .int .i64 x25) h rfl (Y.addM rfl rfl) (fun x25 ex25 h => ?_))
      refine L.y rfl (Y.move rfl) ?_
      exact L.nil (E.againJ ⟨gl12, x25, rfl, rfl, by rw [hg3]; exact h⟩ (Nat.lt_succ_self _) ⟨rfl, rfl, rfl, rfl, rfl, rfl, trivial⟩ (fun _ hw => hw))
    ·
     refine L.nil (E.thenN (W.seq (W.condF rfl ?_)))
     exact W.exit (E.thenX (E.KLX (E.blockX (E.joinJ ⟨gl10, rfl, rfl, h⟩ ⟨rfl, rfl, rfl, trivial⟩ (fun _ hw => hw)))))
   ·
    rintro _ _ ⟨gl1, rfl, rfl, h⟩
    rw [m42_graph_Order_K2] at h
    refine W.seq (W.region (L.y rfl (Y.assign rfl) ?_))
    refine L.nil (E.thenN (W.seqJ (fun gs D => ∃ (gv2 : Value) (gl3 : (List Int)), gs = [(13, gv2)] ∧ D = Cls w [] [.sl gv2 3 1 (gl3.map I)] ∧ m42_graph_Order_K3 gl3 = some r) ?_ ?_))
    ·
     refine W.block (W.nilSl 3 1 ?_)
     refine W.loopJ (fun m gs D => ∃ (gl4 : (List Int)) (gv5 : Value) (gl6 : (List Int)), gs = [(0, .int .i64 a0), (7, v2), (8, (sv b6 a0.toNat)), (13, gv5)] ∧ D = Cls w [] [.sl v2 28 1 (zr svRow q3 l1), .ss (zs (svSd 3 1 I) q3 l1), .sl (sv b6 a0.toNat) 3 1 (gl4.map I), .sl gv5 3 1 (gl6.map I)] ∧ m42_graph_Order_L1 a0 l1 m gl4 gl6 = some r) ⟨gl1, .slice none 0 0, [], rfl, rfl, h⟩ ⟨rfl, rfl, rfl, rfl, trivial⟩ (fun _ hw => hw.sel [1, 2, 3, 0] (by decide) rfl) ?_
     rintro m _ _ ⟨gl4, gv5, gl6, rfl, rfl, h⟩
     rcases m with _ | m
     · rw [m42_graph_Order_L1] at h; cases h
     rw [m42_graph_Order_L1] at h
     generalize hg1 : m42_graph_Order_L1 a0 l1 m = go1 at h
     rw [m42_graph_Order_L1B] at h
     refine W.seqJ (fun gs D => gs = [(0, .int .i64 a0), (7, v2), (8, (sv b6 a0.toNat)), (13, gv5)] ∧ D = Cls w [] [.sl v2 28 1 (zr svRow q3 l1), .ss (zs (svSd 3 1 I) q3 l1), .sl (sv b6 a0.toNat) 3 1 (gl4.map I), .sl gv5 3 1 (gl6.map I)] ∧ m42_graph_Order_K4 gl4 l1 gl6 go1 = some r) ?_ ?_
     ·
      refine W.seq (W.region (L.y rfl (Y.move rfl) ?_))
      refine L.y rfl (Y.lenM (g := I) (l := gl6) Try.underlying28 rfl (fun w hw => As.at_ (hw.get (i := 3) rfl))) ?_
      refine L.y rfl (Y.move rfl) ?_
      refine L.ite h rfl (Y.lss rfl rfl) (fun c23 h => ?_) (fun c23 h => ?_)
      ·
       refine L.nil (E.thenN (W.condT rfl ?_))
       exact W.skip (E.joinJ ⟨rfl, rfl, h⟩ ⟨rfl, rfl, rfl, rfl, trivial⟩ (fun _ hw => hw))
      ·
       refine L.nil (E.thenN (W.condF rfl ?_))
       exact W.exit (E.KSX (E.KLX (E.blockX (E.joinJ ⟨gv5, gl6, rfl, rfl, h⟩ ⟨rfl, trivial⟩ (fun _ hw => hw.sel [3] (by decide) rfl)))))
     ·
      rintro _ _ ⟨rfl, rfl, h⟩
      rw [m42_graph_Order_K4] at h
      refine W.block (W.seq (W.region (L.y rfl (Y.move rfl) ?_)))
      obtain ⟨x7, e8, h⟩ := bind1S h
      refine L.y rfl (Y.does en56 rfl (fun w' hw => (w56_slices_Index_int gl4 0 (sv b6 a0.toNat) w' _ e8 (As.at_ (hw.get (i := 2) rfl))).mono (fun _ _ h => h.1))) ?_
      refine L.y rfl (Y.assign rfl) ?_
      refine L.nil (E.thenN (W.seqJ (fun gs D => gs = [(0, .int .i64 a0), (7, v2), (8, (sv b6 a0.toNat)), (13, gv5), (14, .int .i64 x7)] ∧ D = Cls w [] [.sl v2 28 1 (zr svRow q3 l1), .ss (zs (svSd 3 1 I) q3 l1), .sl (sv b6 a0.toNat) 3 1 (gl4.map I), .sl gv5 3 1 (gl6.map I)] ∧ m42_graph_Order_K5 gl4 x7 l1 gl6 go1 = some r) ?_ ?_))
      ·
       refine W.seq (W.region (L.y rfl (Y.move rfl) ?_))
       refine L.ite h rfl (Y.lss rfl rfl) (fun c22 h => ?_) (fun c22 h => ?_)
       ·
        refine L.nil (E.thenN (W.condT rfl ?_))
        refine W.seq (W.region (L.y rfl (Y.assign rfl) ?_))
        refine L.y rfl (Y.assign rfl) ?_
        refine L.nil (E.thenN (W.ret (E.KSR (E.blockR (E.KLR (E.blockR (E.KSR (E.ret2 rfl rfl rfl (fun w1 hw => ?_)))))))))
        obtain rfl := Option.some.inj h
        exact ⟨_, _, rfl, ⟨_, rfl, rfl⟩, (hw.nilSl 3 1).sel [0] (by decide) rfl⟩
       ·
        refine L.nil (E.thenN (W.condF rfl ?_))
        exact W.skip (E.joinJ ⟨rfl, rfl, h⟩ ⟨rfl, rfl, rfl, rfl, rfl, trivial⟩ (fun _ hw => hw))
      ·
       rintro _ _ ⟨rfl, rfl, h⟩
       rw [m42_graph_Order_K5] at h
       refine W.seq (W.region (L.y rfl (Y.move rfl) ?_))
       refine L.y rfl (Y.move rfl) ?_
       refine L.m (V := fun _ => el (sv b6 a0.toNat) (x7.toNat * 1)) h rfl (Y.indexM (g := I) (l := gl4) Try.underlying28 sz3 rfl rfl (fun w hw => As.at_ (hw.get (i := 2) rfl))) (fun x9 ex9 h => ?_)
       refine L.storeSlM (q := 2) (row := I) (vs := [.int .i64 (-1)]) (j := 0) (u1 := (-1)) h sz3 rfl rfl rfl rfl rfl (all1 rfl all0) rfl ex9 rfl rfl ?_
       intro l10 el10 h
       refine L.nil (E.thenN (W.seqJ (fun gs D => ∃ (gl7 : (List Int)), gs = [(0, .int .i64 a0), (7, v2), (8, (sv b6 a0.toNat)), (13, gv5), (14, .int .i64 x7)] ∧ D = Cls w [] [.sl v2 28 1 (zr svRow q3 l1), .ss (zs (svSd 3 1 I) q3 l1), .sl (sv b6 a0.toNat) 3 1 (gl7.map I), .sl gv5 3 1 (gl6.map I)] ∧ m42_graph_Order_K6 gl6 x7 go1 gl7 = some r) ?_ ?_))
       ·
        refine W.seq (W.region (L.y rfl (Y.move rfl) ?_))
        refine L.y rfl (Y.move rfl) ?_
        refine L.m (V := fun _ => el v2 (x7.toNat * 1)) h rfl (Y.indexMZ (row := svRow) (vs := q3) (l := l1) Try.underlying45 sz28 rfl rfl (fun w hw => As.at_ (hw.get (i := 0) rfl))) (fun x14 ex14 h => ?_)
        refine L.y rfl (Y.loadE1 (u := gv (q3 x7.toNat) 0) ag28 rfl (fun w hw => As.at_ (hw.get (i := 0) rfl)) (zr_idx (vs := q3) ex14)) ?_
        refine L.y rfl (Y.lenM (g := I) (l := x14) Try.underlying28 rfl (fun w hw => As.atZ (sds := (svSd 3 1 I)) (vs := q3) (j := 0) (hw.get (i := 1) rfl) (fun _ _ => rfl) ex14 rfl)) ?_
        refine L.y rfl (Y.move rfl) ?_
        refine L.nil (E.thenN (W.block (W.loopJ (fun m gs D => ∃ (gl8 : (List Int)) (gx9 : Int), gs = [(0, .int .i64 a0), (7, v2), (8, (sv b6 a0.toNat)), (13, gv5), (14, .int .i64 x7), (62, gv (q3 x7.toNat) 0), (63, .int .i64 (x14.length : Int)), (64, .int .i64 gx9)] ∧ D = Cls w [] [.sl v2 28 1 (zr svRow q3 l1), .ss (zs (svSd 3 1 I) q3 l1), .sl (sv b6 a0.toNat) 3 1 (gl8.map I), .sl gv5 3 1 (gl6.map I)] ∧ m42_graph_Order_L2 x14 gl6 x7 go1 m gl8 gx9 = some r) ⟨l10, 0, rfl, rfl, h⟩ ⟨rfl, rfl, rfl, rfl, rfl, rfl, rfl, rfl, trivial⟩ (fun _ hw => hw) ?_)))
        rintro m _ _ ⟨gl8, gx9, rfl, rfl, h⟩
        rcases m with _ | m
        · rw [m42_graph_Order_L2] at h; cases h
        rw [m42_graph_Order_L2] at h
        generalize hg2 : m42_graph_Order_L2 x14 gl6 x7 go1 m = go2 at h
        rw [m42_graph_Order_L2B] at h
        refine W.seq (W.region (L.ite h rfl (Y.lss rfl rfl) (fun c15 h => ?_) (fun c15 h => ?_)))
        ·
         refine L.nil (E.thenN (W.seq (W.condT rfl ?_)))
         refine W.skip (E.thenN (W.seq (W.block (W.seq (W.region (L.m (V := fun _ => el (gv (q3 x7.toNat) 0) (gx9.toNat * 1)) h rfl (Y.indexM (g := I) (l := x14) Try.underlying28 sz3 rfl rfl (fun w hw => As.atZ (sds := (svSd 3 1 I)) (vs := q3) (j := 0) (hw.get (i := 1) rfl) (fun _ _ => rfl) ex14 rfl)) (fun x16 ex16 h => ?_)))))))
         refine L.y rfl (Y.loadE1 (u := .int .i64 x16) ag3 rfl (fun w hw => As.atZ (sds := (svSd 3 1 I)) (vs := q3) (j := 0) (hw.get (i := 1) rfl) (fun _ _ => rfl) ex14 rfl) (idx_map ex16)) ?_
         refine L.y rfl (Y.assign rfl) ?_
         refine L.nil (E.thenN (W.region (L.y rfl (Y.move rfl) ?_)))
         refine L.y rfl (Y.move rfl) ?_
         refine L.m (V := fun _ => el (sv b6 a0.toNat) (x16.toNat * 1)) h rfl (Y.indexM (g := I) (l := gl8) Try.underlying28 sz3 rfl rfl (fun w hw => As.at_ (hw.get (i := 2) rfl))) (fun x17 ex17 h => ?_)
         refine L.y rfl (Y.loadE1 (u := .int .i64 x17) ag3 rfl (fun w hw => As.at_ (hw.get (i := 2) rfl)) (idx_map ex17)) ?_
         refine L.m (V := fun x18 => .int .i64 x18) h rfl (Y.subM rfl rfl) (fun x18 ex18 h => ?_)
         refine L.m (V := fun _ => el (sv b6 a0.toNat) (x16.toNat * 1)) h rfl (Y.indexM (g := I) (l := gl8) Try.underlying28 sz3 rfl rfl (fun w hw => As.at_ (hw.get (i := 2) rfl))) (fun x19 ex19 h => ?_)
         refine L.storeSlM (q := 2) (row := I) (vs := [.int .i64 x18]) (j := 0) (u1 := x18) h sz3 rfl rfl rfl rfl rfl (all1 rfl all0) rfl ex19 rfl rfl ?_
         intro l20 el20 h
         refine L.nil (E.blockN (E.thenN (W.region (L.m (V := fun x21 => .int .i64 x21) h rfl (Y.addM rfl rfl) (fun x21 ex21 h => ?_)))))
         refine L.y rfl (Y.move rfl) ?_
         exact L.nil (E.againJ ⟨l20, x21, rfl, rfl, by rw [hg2]; exact h⟩ (Nat.lt_succ_self _) ⟨rfl, rfl, rfl, rfl, rfl, rfl, rfl, rfl, trivial⟩ (fun _ hw => hw))
        ·
         refine L.nil (E.thenN (W.seq (W.condF rfl ?_)))
         exact W.exit (E.thenX (E.KLX (E.blockX (E.joinJ ⟨gl8, rfl, rfl, h⟩ ⟨rfl, rfl, rfl, rfl, rfl, trivial⟩ (fun _ hw => hw)))))
       ·
        rintro _ _ ⟨gl7, rfl, rfl, h⟩
        rw [m42_graph_Order_K6] at h
        refine W.region (L.y rfl (Y.move rfl) ?_)
        refine L.y rfl (Y.move rfl) ?_
        refine L.litOne rfl Try.underlying28 el3 rfl rfl ?_
        intro b11
        refine L.appM (i := 4) (g := I) (l := gl6) (more := [x7]) h rfl Try.underlying28 el3 rfl rfl rfl (fun w hw => As.at_ (hw.get (i := 0) rfl)) (plain_ints _) rfl ?_
        intro v12 l13 el13 h
        refine L.y rfl (Y.assign rfl) ?_
        exact L.nil (E.blockN (E.againJ ⟨gl7, v12, l13, rfl, rfl, by rw [hg1]; exact h⟩ (Nat.lt_succ_self _) ⟨rfl, rfl, rfl, rfl, trivial⟩ (fun _ hw => hw.sel [2, 3, 4, 0] (by decide) rfl)))
    ·
     rintro _ _ ⟨gv2, gl3, rfl, rfl, h⟩
     rw [m42_graph_Order_K3] at h
     refine W.seq (W.region (L.y rfl (Y.move rfl) ?_))
     refine L.y rfl (Y.assign rfl) ?_
     refine L.y rfl (Y.assign rfl) ?_
     refine L.nil (E.thenN (W.ret (E.ret2 rfl rfl rfl (fun w1 hw => ?_))))
     obtain rfl := Option.some.inj h
     exact ⟨_, _, rfl, ⟨_, rfl, rfl⟩, hw⟩
set_option maxRecDepth 100000 in
set_option maxHeartbeats 8000000 in
theorem w63_order_loop (a0 : (List TDep)) (a1 : Int) (u0 : Value) (w : World) (r : Bool) (h : m63_order_loop a0 a1 = some r) (hA0 : At w u0 3 (a0.map TDep.row)) : Does Try.prog 63 [u0, .int .i64 a1] w fun u m => u = .bool r ∧ m = [] := by
  rw [m63_order_loop] at h
  refine body (n := 36) Try.func63 rfl rfl rfl (Cls.refl w) ?_
  refine W.seq (W.region (L.y rfl (Y.assign rfl) ?_))
  refine L.nil (E.thenN (W.seq (W.region (L.y rfl (Y.assign rfl) ?_))))
  refine L.nil (E.thenN (W.seqJ (fun gs D => ∃ (gv1 : Value) (gl2 : (List TEdge)), gs = [(5, gv1)] ∧ D = Cls w [] [.sl gv1 40 2 (gl2.map TEdge.row)] ∧ m63_order_loop_K1 gl2 = some r) ?_ ?_))
  ·
   refine W.seq (W.region (L.y rfl (Y.move rfl) ?_))
   refine L.y rfl (Y.lenM (g := TDep.row) (l := a0) Try.underlying49 rfl (fun w' hw => hA0.cls0 hw)) ?_
   refine L.y rfl (Y.move rfl) ?_
   refine L.nil (E.thenN (W.block (W.nilSl 40 2 ?_)))
   refine W.loopJ (fun m gs D => ∃ (gv3 : Value) (gl4 : (List TEdge)) (gx5 : Int), gs = [(1, .int .i64 a1), (5, gv3), (10, u0), (11, .int .i64 (a0.length : Int)), (12, .int .i64 gx5)] ∧ D = Cls w [] [.sl gv3 40 2 (gl4.map TEdge.row)] ∧ m63_order_loop_L1 a0 a1 m gl4 gx5 = some r) ⟨.slice none 0 0, [], 0, rfl, rfl, h⟩ ⟨rfl, rfl, rfl, rfl, rfl, trivial⟩ (fun _ hw => hw) ?_
   rintro m _ _ ⟨gv3, gl4, gx5, rfl, rfl, h⟩
   rcases m with _ | m
   · rw [m63_order_loop_L1] at h; cases h
   rw [m63_order_loop_L1] at h
   generalize hg1 : m63_order_loop_L1 a0 a1 m = go1 at h
   rw [m63_order_loop_L1B] at h
   refine W.seq (W.region (L.ite h rfl (Y.lss rfl rfl) (fun c5 h => ?_) (fun c5 h => ?_)))
   ·
    refine L.nil (E.thenN (W.seq (W.condT rfl ?_)))
    refine W.skip (E.thenN (W.seq (W.block (W.seq (W.region (L.m (V := fun _ => el u0 (gx5.toNat * 3)) h rfl (Y.indexM (g := TDep.row) (l := a0) Try.underlying49 sz60 rfl rfl (fun w' hw => hA0.cls0 hw)) (fun x6 ex6 h => ?_)))))))
    refine L.y rfl (Y.loadEN (r := [.int .i64 x6.From, .int .i64 x6.To, .int .i64 x6.Kind]) ag60 sz60 rfl (fun w' hw => hA0.cls0 hw) (idx_map ex6) rfl) ?_
    refine L.alloc rfl ze60 ?_
    intro b7
    refine L.store (i := 0) sz60 rfl rfl rfl rfl (by simp [Value.oneCell', Value.cells, st]) rfl (Nat.le_of_ble_eq_true rfl) ?_
    refine L.nil (E.thenN (W.seq (W.region (L.y rfl (Y.fieldP fd60_2 rfl) ?_))))
    refine L.y rfl (Y.loadP (i := 0) ag3 rfl rfl rfl) ?_
    refine L.y rfl (Y.move rfl) ?_
    refine L.ite h rfl (Y.leq rfl rfl) (fun c8 h => ?_) (fun c8 h => ?_)
    ·
     refine L.nil (E.thenN (W.condT rfl ?_))
     refine W.region (L.y rfl (Y.move rfl) ?_)
     refine L.y rfl (Y.fieldP fd60_0 rfl) ?_
     refine L.y rfl (Y.loadP (i := 0) ag3 rfl rfl rfl) ?_
     refine L.y rfl (Y.fieldP fd60_1 rfl) ?_
     refine L.y rfl (Y.loadP (i := 0) ag3 rfl rfl rfl) ?_
     refine L.y rfl (Y.build (cells := #[.int .i64 x6.From, .int .i64 x6.To]) rfl (by kernel_rfl)) ?_
     refine L.litAgg rfl Try.underlying25 el40 rfl rfl rfl ?_
     intro b9
     refine L.appM (i := 2) (g := TEdge.row) (l := gl4) (more := [(⟨x6.From, x6.To⟩ : TEdge)]) h rfl Try.underlying25 el40 rfl rfl rfl (fun w hw => As.at_ (hw.get (i := 0) rfl)) (plain_TEdge _) rfl ?_
     intro v10 l11 el11 h
     refine L.y rfl (Y.assign rfl) ?_
     refine L.nil (E.blockN (E.thenN (W.region (L.m (V := fun x12 => .int .i64 x12) h rfl (Y.addM rfl rfl) (fun x12 ex12 h => ?_)))))
     refine L.y rfl (Y.move rfl) ?_
     exact L.nil (E.againJ ⟨v10, l11, x12, rfl, rfl, by rw [hg1]; exact h⟩ (Nat.lt_succ_self _) ⟨rfl, rfl, rfl, rfl, rfl, trivial⟩ (fun _ hw => hw.sel [0] (by decide) rfl))
    ·
     refine L.nil (E.thenN (W.condF rfl ?_))
     refine W.skip (E.blockN (E.thenN (W.region (L.m (V := fun x13 => .int .i64 x13) h rfl (Y.addM rfl rfl) (fun x13 ex13 h => ?_)))))
     refine L.y rfl (Y.move rfl) ?_
     exact L.nil (E.againJ ⟨gv3, gl4, x13, rfl, rfl, by rw [hg1]; exact h⟩ (Nat.lt_succ_self _) ⟨rfl, rfl, rfl, rfl, rfl, trivial⟩ (fun _ hw => hw.sel [1] (by decide) rfl))
   ·
    refine L.nil (E.thenN (W.seq (W.condF rfl ?_)))
    exact W.exit (E.thenX (E.KLX (E.blockX (E.joinJ ⟨gv3, gl4, rfl, rfl, h⟩ ⟨rfl, trivial⟩ (fun _ hw => hw)))))
  ·
   rintro _ _ ⟨gv1, gl2, rfl, rfl, h⟩
   rw [m63_order_loop_K1] at h
   refine W.seq (W.region (L.y rfl (Y.move rfl) ?_))
   obtain ⟨l1, x3, e4, h⟩ := bind2S h
   refine L.does rfl en42 rfl (fun w' hw => w42_graph_Order 12 gl2 gv1 w' _ e4 (As.at_ (hw.get (i := 0) rfl))) ?_
   rintro _ _ ⟨v2, rfl, rfl⟩
   refine L.y rfl (Y.move rfl) ?_
   refine L.y rfl (Y.extract rfl rfl) ?_
   refine L.y rfl (Y.extract rfl rfl) ?_
   refine L.y rfl (Y.assign rfl) ?_
   refine L.y rfl (Y.assign rfl) ?_
   refine L.nil (E.thenN (W.seq (W.region (L.y rfl (Y.move rfl) ?_))))
   refine L.y rfl (Y.eql rfl rfl) ?_
   refine L.y rfl (Y.assign rfl) ?_
   refine L.nil (E.thenN (W.ret (E.ret1 rfl rfl (fun w1 hw => ?_))))
   obtain rfl := Option.some.inj h
   exact ⟨_, _, rfl, ⟨rfl, rfl⟩, hw.sel [] (by decide) rfl⟩
set_option maxRecDepth 100000 in
set_option maxHeartbeats 8000000 in
theorem w20_order_Faults (a0 : TStory) (u0_0 : Value) (q0_0 : Nat → List Value) (u0_2 : Value) (q0_2 : Nat → List Value) (w : World) (r : (TFault × Int)) (h : m20_order_Faults a0 = some r) (hA0_0 : At w u0_0 2 (zr TTale.rowv q0_0 a0.Tales)) (hD0_0 : ∀ d ∈ zs TTale.sds q0_0 a0.Tales, At w d.v d.k d.rows) (hA0_2 : At w u0_2 1 (zr svRow q0_2 a0.Versions)) (hD0_2 : ∀ d ∈ zs (svSd 3 1 I) q0_2 a0.Versions, At w d.v d.k d.rows) : Does Try.prog 20 [.agg #[u0_0, u0_2]] w fun u m => u = .tuple #[.agg #[.bool r.1.Writes, .bool r.1.Flow, .bool r.1.Any], .int .i64 r.2] ∧ m = [] := by
  rw [m20_order_Faults] at h
  refine body (n := 22) Try.func20 rfl rfl rfl (Cls.refl w) ?_
  refine W.seq (W.region (L.box rfl rfl ?_))
  intro b1
  refine L.alloc rfl ze53 ?_
  intro b2
  refine L.y rfl (Y.assign rfl) ?_
  refine L.nil (E.thenN (W.seq (W.region (L.y rfl (Y.loadPW (i := 1) ag47 sz47 rfl rfl rfl) ?_))))
  obtain ⟨l3, x5, e6, h⟩ := bind2S h
  refine L.does rfl en19 rfl (fun w' hw => w19_order_Deps a0 u0_0 q0_0 u0_2 q0_2 w' _ e6 (hA0_0.cls0 hw) (fun d hd => (hD0_0 d hd).cls0 hw) (hA0_2.cls0 hw) (fun d hd => (hD0_2 d hd).cls0 hw)) ?_
  rintro _ _ ⟨v4, rfl, rfl⟩
  refine L.y rfl (Y.move rfl) ?_
  refine L.y rfl (Y.extract rfl rfl) ?_
  refine L.y rfl (Y.extract rfl rfl) ?_
  refine L.y rfl (Y.assign rfl) ?_
  refine L.y rfl (Y.assign rfl) ?_
  refine L.nil (E.thenN (W.seq (W.seq (W.region (L.y rfl (Y.move rfl) ?_)))))
  refine L.ite h rfl (Y.neq rfl rfl) (fun c7 h => ?_) (fun c7 h => ?_)
  ·
   refine L.nil (E.thenN (W.condT rfl ?_))
   refine W.seq (W.region (L.y rfl (Y.build (cells := #[.bool false, .bool false, .bool false]) rfl (by kernel_rfl)) ?_))
   refine L.y rfl (Y.move rfl) ?_
   refine L.store (i := 1) sz53 rfl rfl rfl rfl (by simp [Value.oneCell', Value.cells, st]) rfl (Nat.le_of_ble_eq_true rfl) ?_
   refine L.y rfl (Y.assign rfl) ?_
   refine L.nil (E.thenN (W.ret (E.thenR (E.retR2 rfl (Rv.cellW (i := 1) ag53 sz53 rfl rfl rfl) (Rv.tmp rfl) (fun w1 hw => ?_)))))
   obtain rfl := Option.some.inj h
   exact ⟨_, _, rfl, ⟨rfl, rfl⟩, hw.sel [] (by decide) rfl⟩
  ·
   refine L.nil (E.thenN (W.condF rfl ?_))
   refine W.skip (E.thenN (W.seq (W.region (L.y rfl (Y.move rfl) ?_))))
   obtain ⟨b8, e9, h⟩ := bind1S h
   refine L.y rfl (Y.does en63 rfl (fun w' hw => (w63_order_loop l3 1 v4 w' _ e9 (As.at_ (hw.get (i := 0) rfl))).mono (fun _ _ h => h.1))) ?_
   refine L.y rfl (Y.move rfl) ?_
   obtain ⟨b10, e11, h⟩ := bind1S h
   refine L.y rfl (Y.does en63 rfl (fun w' hw => (w63_order_loop l3 2 v4 w' _ e11 (As.at_ (hw.get (i := 0) rfl))).mono (fun _ _ h => h.1))) ?_
   refine L.y rfl (Y.move rfl) ?_
   obtain ⟨b12, e13, h⟩ := bind1S h
   refine L.y rfl (Y.does en63 rfl (fun w' hw => (w63_order_loop l3 3 v4 w' _ e13 (As.at_ (hw.get (i := 0) rfl))).mono (fun _ _ h => h.1))) ?_
   refine L.y rfl (Y.build (cells := #[.bool b8, .bool b10, .bool b12]) rfl (by kernel_rfl)) ?_
   refine L.store (i := 1) sz53 rfl rfl rfl rfl (by simp [Value.oneCell', Value.cells, st]) rfl (Nat.le_of_ble_eq_true rfl) ?_
   refine L.y rfl (Y.assign rfl) ?_
   refine L.nil (E.thenN (W.ret (E.retR2 rfl (Rv.cellW (i := 1) ag53 sz53 rfl rfl rfl) (Rv.tmp rfl) (fun w1 hw => ?_))))
   obtain rfl := Option.some.inj h
   exact ⟨_, _, rfl, ⟨rfl, rfl⟩, hw.sel [] (by decide) rfl⟩
set_option maxRecDepth 100000 in
set_option maxHeartbeats 8000000 in
theorem w21_order_Serial (a0 : TStory) (u0_0 : Value) (q0_0 : Nat → List Value) (u0_2 : Value) (q0_2 : Nat → List Value) (w : World) (r : ((List Int) × Int)) (h : m21_order_Serial a0 = some r) (hA0_0 : At w u0_0 2 (zr TTale.rowv q0_0 a0.Tales)) (hD0_0 : ∀ d ∈ zs TTale.sds q0_0 a0.Tales, At w d.v d.k d.rows) (hA0_2 : At w u0_2 1 (zr svRow q0_2 a0.Versions)) (hD0_2 : ∀ d ∈ zs (svSd 3 1 I) q0_2 a0.Versions, At w d.v d.k d.rows) : Does Try.prog 21 [.agg #[u0_0, u0_2]] w fun u m => ∃ v0, u = .tuple #[v0, .int .i64 r.2] ∧ m = [.sl v0 3 1 (r.1.map I)] := by
  rw [m21_order_Serial] at h
  refine body (n := 44) Try.func21 rfl rfl rfl (Cls.refl w) ?_
  refine W.seq (W.region (L.box rfl rfl ?_))
  intro b1
  refine L.y rfl (Y.assign rfl) ?_
  refine L.y rfl (Y.assign rfl) ?_
  refine L.nil (E.thenN (W.seq (W.region (L.y rfl (Y.loadPW (i := 0) ag47 sz47 rfl rfl rfl) ?_))))
  obtain ⟨l2, x4, e5, h⟩ := bind2S h
  refine L.does rfl en19 rfl (fun w' hw => w19_order_Deps a0 u0_0 q0_0 u0_2 q0_2 w' _ e5 (hA0_0.cls0 hw) (fun d hd => (hD0_0 d hd).cls0 hw) (hA0_2.cls0 hw) (fun d hd => (hD0_2 d hd).cls0 hw)) ?_
  rintro _ _ ⟨v3, rfl, rfl⟩
  refine L.y rfl (Y.move rfl) ?_
  refine L.y rfl (Y.extract rfl rfl) ?_
  refine L.y rfl (Y.extract rfl rfl) ?_
  refine L.y rfl (Y.assign rfl) ?_
  refine L.y rfl (Y.assign rfl) ?_
  refine L.nil (E.thenN (W.seqJ (fun gs D => gs = [(1, pt b1 0), (4, v3)] ∧ D = Cls w [] [.obj b1 [u0_0, u0_2] 47, .sl v3 60 3 (l2.map TDep.row)] ∧ m21_order_Serial_K1 l2 a0 = some r) ?_ ?_))
  ·
   refine W.seq (W.region (L.y rfl (Y.move rfl) ?_))
   refine L.ite h rfl (Y.neq rfl rfl) (fun c44 h => ?_) (fun c44 h => ?_)
   ·
    refine L.nil (E.thenN (W.condT rfl ?_))
    refine W.seq (W.region (L.y rfl (Y.move rfl) ?_))
    refine L.y rfl (Y.assign rfl) ?_
    refine L.y rfl (Y.assign rfl) ?_
    refine L.nil (E.thenN (W.ret (E.KSR (E.ret2 rfl rfl rfl (fun w1 hw => ?_)))))
    obtain rfl := Option.some.inj h
    exact ⟨_, _, rfl, ⟨_, rfl, rfl⟩, (hw.nilSl 3 1).sel [0] (by decide) rfl⟩
   ·
    refine L.nil (E.thenN (W.condF rfl ?_))
    exact W.skip (E.joinJ ⟨rfl, rfl, h⟩ ⟨rfl, rfl, trivial⟩ (fun _ hw => hw.sel [1, 0] (by decide) rfl))
  ·
   rintro _ _ ⟨rfl, rfl, h⟩
   rw [m21_order_Serial_K1] at h
   refine W.seq (W.region (L.y rfl (Y.assign rfl) ?_))
   refine L.nil (E.thenN (W.seqJ (fun gs D => ∃ (gv1 : Value) (gl2 : (List TEdge)), gs = [(1, pt b1 0), (6, gv1)] ∧ D = Cls w [] [.obj b1 [u0_0, u0_2] 47, .sl gv1 40 2 (gl2.map TEdge.row)] ∧ m21_order_Serial_K2 a0 gl2 = some r) ?_ ?_))
   ·
    refine W.seq (W.region (L.y rfl (Y.move rfl) ?_))
    refine L.y rfl (Y.lenM (g := TDep.row) (l := l2) Try.underlying49 rfl (fun w hw => As.at_ (hw.get (i := 1) rfl))) ?_
    refine L.y rfl (Y.move rfl) ?_
    refine L.nil (E.thenN (W.block (W.nilSl 40 2 ?_)))
    refine W.loopJ (fun m gs D => ∃ (gv20 : Value) (gl21 : (List TEdge)) (gx22 : Int), gs = [(1, pt b1 0), (6, gv20), (18, v3), (19, .int .i64 (l2.length : Int)), (20, .int .i64 gx22)] ∧ D = Cls w [] [.obj b1 [u0_0, u0_2] 47, .sl gv20 40 2 (gl21.map TEdge.row), .sl v3 60 3 (l2.map TDep.row)] ∧ m21_order_Serial_L5 l2 a0 m gl21 gx22 = some r) ⟨.slice none 0 0, [], 0, rfl, rfl, h⟩ ⟨rfl, rfl, rfl, rfl, rfl, trivial⟩ (fun _ hw => hw.sel [1, 0, 2] (by decide) rfl) ?_
    rintro m _ _ ⟨gv20, gl21, gx22, rfl, rfl, h⟩
    rcases m with _ | m
    · rw [m21_order_Serial_L5] at h; cases h
    rw [m21_order_Serial_L5] at h
    generalize hg5 : m21_order_Serial_L5 l2 a0 m = go5 at h
    rw [m21_order_Serial_L5B] at h
    refine W.seq (W.region (L.ite h rfl (Y.lss rfl rfl) (fun c37 h => ?_) (fun c37 h => ?_)))
    ·
     refine L.nil (E.thenN (W.seq (W.condT rfl ?_)))
     refine W.skip (E.thenN (W.seq (W.block (W.seq (W.region (L.m (V := fun _ => el v3 (gx22.toNat * 3)) h rfl (Y.indexM (g := TDep.row) (l := l2) Try.underlying49 sz60 rfl rfl (fun w hw => As.at_ (hw.get (i := 2) rfl))) (fun x38 ex38 h => ?_)))))))
     refine L.y rfl (Y.loadEN (r := [.int .i64 x38.From, .int .i64 x38.To, .int .i64 x38.Kind]) ag60 sz60 rfl (fun w hw => As.at_ (hw.get (i := 2) rfl)) (idx_map ex38) rfl) ?_
     refine L.alloc rfl ze60 ?_
     intro b39
     refine L.store (i := 0) sz60 rfl rfl rfl rfl (by simp [Value.oneCell', Value.cells, st]) rfl (Nat.le_of_ble_eq_true rfl) ?_
     refine L.nil (E.thenN (W.region (L.y rfl (Y.move rfl) ?_)))
     refine L.y rfl (Y.fieldP fd60_0 rfl) ?_
     refine L.y rfl (Y.loadP (i := 0) ag3 rfl rfl rfl) ?_
     refine L.y rfl (Y.fieldP fd60_1 rfl) ?_
     refine L.y rfl (Y.loadP (i := 0) ag3 rfl rfl rfl) ?_
     refine L.y rfl (Y.build (cells := #[.int .i64 x38.From, .int .i64 x38.To]) rfl (by kernel_rfl)) ?_
     refine L.litAgg rfl Try.underlying25 el40 rfl rfl rfl ?_
     intro b40
     refine L.appM (i := 3) (g := TEdge.row) (l := gl21) (more := [(⟨x38.From, x38.To⟩ : TEdge)]) h rfl Try.underlying25 el40 rfl rfl rfl (fun w hw => As.at_ (hw.get (i := 0) rfl)) (plain_TEdge _) rfl ?_
     intro v41 l42 el42 h
     refine L.y rfl (Y.assign rfl) ?_
     refine L.nil (E.blockN (E.thenN (W.region (L.m (V := fun x43 => .int .i64 x43) h rfl (Y.addM rfl rfl) (fun x43 ex43 h => ?_)))))
     refine L.y rfl (Y.move rfl) ?_
     exact L.nil (E.againJ ⟨v41, l42, x43, rfl, rfl, by rw [hg5]; exact h⟩ (Nat.lt_succ_self _) ⟨rfl, rfl, rfl, rfl, rfl, trivial⟩ (fun _ hw => hw.sel [3, 0, 4] (by decide) rfl))
    ·
     refine L.nil (E.thenN (W.seq (W.condF rfl ?_)))
     exact W.exit (E.thenX (E.KLX (E.blockX (E.joinJ ⟨gv20, gl21, rfl, rfl, h⟩ ⟨rfl, rfl, trivial⟩ (fun _ hw => hw.sel [0, 1] (by decide) rfl)))))
   ·
    rintro _ _ ⟨gv1, gl2, rfl, rfl, h⟩
    rw [m21_order_Serial_K2] at h
    refine W.seq (W.region (L.y rfl (Y.move rfl) ?_))
    obtain ⟨l6, x8, e9, h⟩ := bind2S h
    refine L.does rfl en42 rfl (fun w' hw => w42_graph_Order 12 gl2 gv1 w' _ e9 (As.at_ (hw.get (i := 1) rfl))) ?_
    rintro _ _ ⟨v7, rfl, rfl⟩
    refine L.y rfl (Y.move rfl) ?_
    refine L.y rfl (Y.extract rfl rfl) ?_
    refine L.y rfl (Y.extract rfl rfl) ?_
    refine L.y rfl (Y.assign rfl) ?_
    refine L.y rfl (Y.assign rfl) ?_
    refine L.nil (E.thenN (W.seqJ (fun gs D => gs = [(1, pt b1 0), (9, v7)] ∧ D = Cls w [] [.obj b1 [u0_0, u0_2] 47, .sl v7 3 1 (l6.map I)] ∧ m21_order_Serial_K3 l6 a0 = some r) ?_ ?_))
    ·
     refine W.seq (W.region (L.y rfl (Y.move rfl) ?_))
     refine L.ite h rfl (Y.neq rfl rfl) (fun c36 h => ?_) (fun c36 h => ?_)
     ·
      refine L.nil (E.thenN (W.condT rfl ?_))
      refine W.seq (W.region (L.y rfl (Y.move rfl) ?_))
      refine L.y rfl (Y.assign rfl) ?_
      refine L.y rfl (Y.assign rfl) ?_
      refine L.nil (E.thenN (W.ret (E.KSR (E.ret2 rfl rfl rfl (fun w1 hw => ?_)))))
      obtain rfl := Option.some.inj h
      exact ⟨_, _, rfl, ⟨_, rfl, rfl⟩, (hw.nilSl 3 1).sel [0] (by decide) rfl⟩
     ·
      refine L.nil (E.thenN (W.condF rfl ?_))
      exact W.skip (E.joinJ ⟨rfl, rfl, h⟩ ⟨rfl, rfl, trivial⟩ (fun _ hw => hw.sel [1, 0] (by decide) rfl))
    ·
     rintro _ _ ⟨rfl, rfl, h⟩
     rw [m21_order_Serial_K3] at h
     refine W.seq (W.region (L.y rfl (Y.move rfl) ?_))
     refine L.y rfl (Y.func rfl) ?_
     refine L.callJ (fun v D => ∃ (gv3 : Value) (gl4 : (List Int)), v = gv3 ∧ D = Cls w [] [.sl gv3 3 1 (gl4.map I)] ∧ m21_order_Serial_K4 gl4 = some r) rfl en43 rfl Try.func43 rfl rfl rfl ?_ ?_
     ·
      refine W.seq (W.region (L.y rfl (Y.assign rfl) ?_))
      refine L.nil (E.thenN (W.seq (W.region (L.y rfl (Y.move rfl) ?_))))
      refine L.y rfl (Y.move rfl) ?_
      refine L.callJ (fun v D => ∃ (gx5 : Int), v = .int .i64 gx5 ∧ D = Cls w [] [.obj b1 [u0_0, u0_2] 47, .sl v7 3 1 (l6.map I)] ∧ m21_order_Serial_K5 l6 a0 gx5 = some r) rfl en111 rfl Try.func111 rfl rfl rfl ?_ ?_
      ·
       refine W.seq (W.region (L.y rfl (Y.assign rfl) ?_))
       refine L.nil (E.thenN (W.seqJ (fun gs D => gs = [] ∧ D = Cls w [] [.obj b1 [u0_0, u0_2] 47, .sl v7 3 1 (l6.map I)] ∧ m21_order_Serial_K14 l6 a0 = some r) ?_ ?_))
       ·
        refine W.seq (W.region (L.y rfl (Y.move rfl) ?_))
        refine L.y rfl (Y.lenM (g := I) (l := l6) Try.underlying28 rfl (fun w hw => As.at_ (hw.get (i := 1) rfl))) ?_
        refine L.y rfl (Y.move rfl) ?_
        refine L.nil (E.thenN (W.block (W.loopJ (fun m gs D => ∃ (gx15 : Int), gs = [(0, v7), (1, .func (.func 64) #[] #[pt b1 0]), (7, .int .i64 (l6.length : Int)), (8, .int .i64 gx15)] ∧ D = Cls w [] [.obj b1 [u0_0, u0_2] 47, .sl v7 3 1 (l6.map I)] ∧ m21_order_Serial_L3 l6 a0 m gx15 = some r) ⟨0, rfl, rfl, h⟩ ⟨rfl, rfl, rfl, rfl, trivial⟩ (fun _ hw => hw) ?_)))
        rintro m _ _ ⟨gx15, rfl, rfl, h⟩
        rcases m with _ | m
        · rw [m21_order_Serial_L3] at h; cases h
        rw [m21_order_Serial_L3] at h
        generalize hg3 : m21_order_Serial_L3 l6 a0 m = go3 at h
        rw [m21_order_Serial_L3B] at h
        refine W.seq (W.region (L.ite h rfl (Y.lss rfl rfl) (fun c28 h => ?_) (fun c28 h => ?_)))
        ·
         refine L.nil (E.thenN (W.seq (W.condT rfl ?_)))
         refine W.skip (E.thenN (W.seq (W.block (W.seq (W.region (L.y rfl (Y.move rfl) ?_))))))
         refine L.y rfl (Y.assign rfl) ?_
         refine L.nil (E.thenN (W.seq (W.region (L.y rfl (Y.move rfl) ?_))))
         refine L.y rfl (Y.move rfl) ?_
         refine L.y rfl (Y.move rfl) ?_
         refine L.m (V := fun _ => el v7 (gx15.toNat * 1)) h rfl (Y.indexM (g := I) (l := l6) Try.underlying28 sz3 rfl rfl (fun w hw => As.at_ (hw.get (i := 1) rfl))) (fun x29 ex29 h => ?_)
         refine L.y rfl (Y.loadE1 (u := .int .i64 x29) ag3 rfl (fun w hw => As.at_ (hw.get (i := 1) rfl)) (idx_map ex29)) ?_
         refine L.callVJ (fun v D => ∃ (gb16 : Bool), v = .bool gb16 ∧ D = Cls w [] [.obj b1 [u0_0, u0_2] 47, .sl v7 3 1 (l6.map I)] ∧ m21_order_Serial_K15 l6 a0 gx15 go3 gb16 = some r) rfl en64 rfl rfl Try.func64 rfl rfl rfl ?_ ?_
         ·
          refine W.seq (W.region (L.box rfl rfl ?_))
          intro b31
          refine L.y rfl (Y.assign rfl) ?_
          refine L.nil (E.thenN (W.seq (W.region (L.y rfl (Y.fieldP fd47_0 rfl) ?_))))
          refine L.y rfl (Y.loadP (i := 1) ag44 rfl rfl rfl) ?_
          refine L.y rfl (Y.func rfl) ?_
          refine L.callJ (fun v D => ∃ (gb17 : Bool), v = .bool gb17 ∧ D = Cls w [] [.obj b1 [u0_0, u0_2] 47, .sl v7 3 1 (l6.map I)] ∧ m21_order_Serial_K16 l6 a0 gx15 go3 gb17 = some r) rfl en53 rfl Try.func53 rfl rfl rfl ?_ ?_
          ·
           refine W.seq (W.region (L.y rfl (Y.assign rfl) ?_))
           refine L.nil (E.thenN (W.seq (W.region (L.y rfl (Y.move rfl) ?_))))
           refine L.y rfl (Y.move rfl) ?_
           refine L.callJ (fun v D => ∃ (gx18 : Int), v = .int .i64 gx18 ∧ D = Cls w [] [.obj b1 [u0_0, u0_2] 47, .sl v7 3 1 (l6.map I)] ∧ m21_order_Serial_K17 l6 a0 gx15 go3 gx18 = some r) rfl en114 rfl Try.func114 rfl rfl rfl ?_ ?_
           ·
            refine W.seq (W.region (L.y rfl (Y.assign rfl) ?_))
            refine L.nil (E.thenN (W.seqJ (fun gs D => gs = [] ∧ D = Cls w [] [.obj b1 [u0_0, u0_2] 47, .sl v7 3 1 (l6.map I)] ∧ m21_order_Serial_K18 l6 a0 gx15 go3 = some r) ?_ ?_))
            ·
             refine W.seq (W.region (L.y rfl (Y.move rfl) ?_))
             refine L.y rfl (Y.lenMZ (row := TTale.rowv) (vs := q0_0) (l := a0.Tales) Try.underlying44 rfl (fun w' hw => hA0_0.cls0 hw)) ?_
             refine L.y rfl (Y.move rfl) ?_
             refine L.nil (E.thenN (W.block (W.loopJ (fun m gs D => ∃ (gx19 : Int), gs = [(0, u0_0), (1, .func (.func 65) #[] #[pt b31 0]), (7, .int .i64 (a0.Tales.length : Int)), (8, .int .i64 gx19)] ∧ D = Cls w [] [.obj b31 [.int .i64 x29] 3, .obj b1 [u0_0, u0_2] 47, .sl v7 3 1 (l6.map I)] ∧ m21_order_Serial_L4 a0 x29 l6 gx15 go3 m gx19 = some r) ⟨0, rfl, rfl, h⟩ ⟨rfl, rfl, rfl, rfl, trivial⟩ (fun _ hw => hw) ?_)))
             rintro m _ _ ⟨gx19, rfl, rfl, h⟩
             rcases m with _ | m
             · rw [m21_order_Serial_L4] at h; cases h
             rw [m21_order_Serial_L4] at h
             generalize hg4 : m21_order_Serial_L4 a0 x29 l6 gx15 go3 m = go4 at h
             rw [m21_order_Serial_L4B] at h
             refine W.seq (W.region (L.ite h rfl (Y.lss rfl rfl) (fun c32 h => ?_) (fun c32 h => ?_)))
             ·
              refine L.nil (E.thenN (W.seq (W.condT rfl ?_)))
              refine W.skip (E.thenN (W.seq (W.block (W.seq (W.region (L.y rfl (Y.move rfl) ?_))))))
              refine L.y rfl (Y.assign rfl) ?_
              refine L.nil (E.thenN (W.seq (W.region (L.y rfl (Y.move rfl) ?_))))
              refine L.y rfl (Y.move rfl) ?_
              refine L.y rfl (Y.move rfl) ?_
              refine L.m (V := fun _ => el u0_0 (gx19.toNat * 2)) h rfl (Y.indexMZ (row := TTale.rowv) (vs := q0_0) (l := a0.Tales) Try.underlying44 sz101 rfl rfl (fun w' hw => hA0_0.cls0 hw)) (fun x33 ex33 h => ?_)
              refine L.y rfl (Y.loadEN (r := [.int .i64 x33.Tx, gv (q0_0 gx19.toNat) 0]) ag101 sz101 rfl (fun w' hw => hA0_0.cls0 hw) (zr_idx (vs := q0_0) ex33) rfl) ?_
              refine L.callVJ (fun v D => v = .bool (decide (x33.Tx = x29)) ∧ D = Cls w [] [.obj b31 [.int .i64 x29] 3, .obj b1 [u0_0, u0_2] 47, .sl v7 3 1 (l6.map I)] ∧ m21_order_Serial_K19 x33 x29 l6 a0 gx15 go3 gx19 go4 = some r) rfl en65 rfl rfl Try.func65 rfl rfl rfl ?_ ?_
              ·
               refine W.seq (W.region (L.box rfl rfl ?_))
               intro b35
               refine L.y rfl (Y.assign rfl) ?_
               refine L.nil (E.thenN (W.seq (W.region (L.y rfl (Y.fieldP fd101_0 rfl) ?_))))
               refine L.y rfl (Y.loadP (i := 0) ag3 rfl rfl rfl) ?_
               refine L.y rfl (Y.loadP (i := 1) ag3 rfl rfl rfl) ?_
               refine L.y rfl (Y.eql rfl rfl) ?_
               refine L.y rfl (Y.assign rfl) ?_
               refine L.nil (E.thenN (W.ret (E.ret1 rfl rfl (fun w1 hw => ?_))))
               exact ⟨_, _, rfl, ⟨rfl, rfl, h⟩, hw.sel [1, 2, 3] (by decide) rfl⟩
              ·
               rintro _ _ ⟨rfl, rfl, h⟩
               rw [m21_order_Serial_K19] at h
               refine L.nil (E.thenN (W.caseB (q := 16) h rfl (fun h => ?_) (fun h => ?_)))
               ·
                refine W.condT rfl ?_
                refine W.seq (W.region (L.y rfl (Y.move rfl) ?_))
                refine L.y rfl (Y.assign rfl) ?_
                refine L.nil (E.thenN (W.ret (E.blockR (E.thenR (E.KLR (E.blockR (E.KSR (E.ret1 rfl rfl (fun w1 hw => ?_)))))))))
                exact ⟨_, _, rfl, ⟨gx19, rfl, rfl, h⟩, hw.sel [1, 2] (by decide) rfl⟩
               ·
                refine W.condF rfl ?_
                refine W.skip (E.blockN (E.thenN (W.region (L.m (V := fun x34 => .int .i64 x34) h rfl (Y.addM rfl rfl) (fun x34 ex34 h => ?_)))))
                refine L.y rfl (Y.move rfl) ?_
                exact L.nil (E.againJ ⟨x34, rfl, rfl, by rw [hg4]; exact h⟩ (Nat.lt_succ_self _) ⟨rfl, rfl, rfl, rfl, trivial⟩ (fun _ hw => hw))
             ·
              refine L.nil (E.thenN (W.seq (W.condF rfl ?_)))
              exact W.exit (E.thenX (E.KLX (E.blockX (E.joinJ ⟨rfl, rfl, h⟩ trivial (fun _ hw => hw.sel [1, 2] (by decide) rfl)))))
            ·
             rintro _ _ ⟨rfl, rfl, h⟩
             rw [m21_order_Serial_K18] at h
             refine W.seq (W.region (L.y rfl (Y.assign rfl) ?_))
             refine L.nil (E.thenN (W.ret (E.ret1 rfl rfl (fun w1 hw => ?_))))
             exact ⟨_, _, rfl, ⟨(-1), rfl, rfl, h⟩, hw⟩
           ·
            rintro _ _ ⟨gx18, rfl, rfl, h⟩
            rw [m21_order_Serial_K17] at h
            refine L.y rfl (Y.geq rfl rfl) ?_
            refine L.y rfl (Y.assign rfl) ?_
            refine L.nil (E.thenN (W.ret (E.ret1 rfl rfl (fun w1 hw => ?_))))
            exact ⟨_, _, rfl, ⟨decide (0 ≤ gx18), rfl, rfl, h⟩, hw⟩
          ·
           rintro _ _ ⟨gb17, rfl, rfl, h⟩
           rw [m21_order_Serial_K16] at h
           refine L.y rfl (Y.not rfl) ?_
           refine L.y rfl (Y.assign rfl) ?_
           refine L.nil (E.thenN (W.ret (E.ret1 rfl rfl (fun w1 hw => ?_))))
           exact ⟨_, _, rfl, ⟨(!gb17), rfl, rfl, h⟩, hw⟩
         ·
          rintro _ _ ⟨gb16, rfl, rfl, h⟩
          rw [m21_order_Serial_K15] at h
          rcases gb16 with _ | _
          ·
           replace h := iteF h
           refine L.nil (E.thenN (W.condF rfl ?_))
           refine W.skip (E.blockN (E.thenN (W.region (L.m (V := fun x30 => .int .i64 x30) h rfl (Y.addM rfl rfl) (fun x30 ex30 h => ?_)))))
           refine L.y rfl (Y.move rfl) ?_
           exact L.nil (E.againJ ⟨x30, rfl, rfl, by rw [hg3]; exact h⟩ (Nat.lt_succ_self _) ⟨rfl, rfl, rfl, rfl, trivial⟩ (fun _ hw => hw))
          ·
           replace h := iteT h
           refine L.nil (E.thenN (W.condT rfl ?_))
           refine W.seq (W.region (L.y rfl (Y.move rfl) ?_))
           refine L.y rfl (Y.assign rfl) ?_
           refine L.nil (E.thenN (W.ret (E.blockR (E.thenR (E.KLR (E.blockR (E.KSR (E.ret1 rfl rfl (fun w1 hw => ?_)))))))))
           exact ⟨_, _, rfl, ⟨gx15, rfl, rfl, h⟩, hw⟩
        ·
         refine L.nil (E.thenN (W.seq (W.condF rfl ?_)))
         exact W.exit (E.thenX (E.KLX (E.blockX (E.joinJ ⟨rfl, rfl, h⟩ trivial (fun _ hw => hw)))))
       ·
        rintro _ _ ⟨rfl, rfl, h⟩
        rw [m21_order_Serial_K14] at h
        refine W.seq (W.region (L.y rfl (Y.assign rfl) ?_))
        refine L.nil (E.thenN (W.ret (E.ret1 rfl rfl (fun w1 hw => ?_))))
        exact ⟨_, _, rfl, ⟨(-1), rfl, rfl, h⟩, hw⟩
      ·
       rintro _ _ ⟨gx5, rfl, rfl, h⟩
       rw [m21_order_Serial_K5] at h
       refine L.y rfl (Y.assign rfl) ?_
       refine L.nil (E.thenN (W.seqJ (fun gs D => gs = [(0, v7), (1, .func (.func 64) #[] #[pt b1 0]), (5, .int .i64 gx5)] ∧ D = Cls w [] [.obj b1 [u0_0, u0_2] 47, .sl v7 3 1 (l6.map I)] ∧ m21_order_Serial_K6 gx5 a0 l6 = some r) ?_ ?_))
       ·
        refine W.seq (W.region (L.y rfl (Y.move rfl) ?_))
        refine L.ite h rfl (Y.eql rfl rfl) (fun c27 h => ?_) (fun c27 h => ?_)
        ·
         refine L.nil (E.thenN (W.condT rfl ?_))
         refine W.seq (W.region (L.y rfl (Y.move rfl) ?_))
         refine L.y rfl (Y.assign rfl) ?_
         refine L.nil (E.thenN (W.ret (E.KSR (E.ret1 rfl rfl (fun w1 hw => ?_)))))
         exact ⟨_, _, rfl, ⟨v7, l6, rfl, rfl, h⟩, hw.sel [1] (by decide) rfl⟩
        ·
         refine L.nil (E.thenN (W.condF rfl ?_))
         exact W.skip (E.joinJ ⟨rfl, rfl, h⟩ ⟨rfl, rfl, rfl, trivial⟩ (fun _ hw => hw))
       ·
        rintro _ _ ⟨rfl, rfl, h⟩
        rw [m21_order_Serial_K6] at h
        refine W.seqJ (fun gs D => ∃ (gl6 : (List Int)) (gx7 : Int), gs = [(0, v7), (5, .int .i64 gx7)] ∧ D = Cls w [] [.sl v7 3 1 (gl6.map I)] ∧ m21_order_Serial_K7 gl6 gx7 = some r) ?_ ?_
        ·
         refine W.seq (W.region (L.y rfl (Y.move rfl) ?_))
         refine L.m (V := fun x14 => .int .i64 x14) h rfl (Y.addM rfl rfl) (fun x14 ex14 h => ?_)
         refine L.y rfl (Y.assign rfl) ?_
         refine L.nil (E.thenN (W.block (W.loopJ (fun m gs D => ∃ (gl8 : (List Int)) (gx9 : Int) (gx10 : Int), gs = [(0, v7), (1, .func (.func 64) #[] #[pt b1 0]), (5, .int .i64 gx9), (6, .int .i64 gx10)] ∧ D = Cls w [] [.obj b1 [u0_0, u0_2] 47, .sl v7 3 1 (gl8.map I)] ∧ m21_order_Serial_L1 a0 m gl8 gx9 gx10 = some r) ⟨l6, gx5, x14, rfl, rfl, h⟩ ⟨rfl, rfl, rfl, rfl, trivial⟩ (fun _ hw => hw) ?_)))
         rintro m _ _ ⟨gl8, gx9, gx10, rfl, rfl, h⟩
         rcases m with _ | m
         · rw [m21_order_Serial_L1] at h; cases h
         rw [m21_order_Serial_L1] at h
         generalize hg1 : m21_order_Serial_L1 a0 m = go1 at h
         rw [m21_order_Serial_L1B] at h
         refine W.seqJ (fun gs D => gs = [(0, v7), (1, .func (.func 64) #[] #[pt b1 0]), (5, .int .i64 gx9), (6, .int .i64 gx10)] ∧ D = Cls w [] [.obj b1 [u0_0, u0_2] 47, .sl v7 3 1 (gl8.map I)] ∧ m21_order_Serial_K8 gl8 gx10 a0 go1 gx9 = some r) ?_ ?_
         ·
          refine W.seq (W.region (L.y rfl (Y.move rfl) ?_))
          refine L.y rfl (Y.move rfl) ?_
          refine L.y rfl (Y.lenM (g := I) (l := gl8) Try.underlying28 rfl (fun w hw => As.at_ (hw.get (i := 1) rfl))) ?_
          refine L.ite h rfl (Y.lss rfl rfl) (fun c26 h => ?_) (fun c26 h => ?_)
          ·
           refine L.nil (E.thenN (W.condT rfl ?_))
           exact W.skip (E.joinJ ⟨rfl, rfl, h⟩ ⟨rfl, rfl, rfl, rfl, trivial⟩ (fun _ hw => hw))
          ·
           refine L.nil (E.thenN (W.condF rfl ?_))
           exact W.exit (E.KSX (E.KLX (E.blockX (E.joinJ ⟨gl8, gx9, rfl, rfl, h⟩ ⟨rfl, rfl, trivial⟩ (fun _ hw => hw.sel [1] (by decide) rfl)))))
         ·
          rintro _ _ ⟨rfl, rfl, h⟩
          rw [m21_order_Serial_K8] at h
          refine W.seq (W.block (W.seq (W.region (L.y rfl (Y.move rfl) ?_))))
          refine L.y rfl (Y.move rfl) ?_
          refine L.m (V := fun _ => el v7 (gx10.toNat * 1)) h rfl (Y.indexM (g := I) (l := gl8) Try.underlying28 sz3 rfl rfl (fun w hw => As.at_ (hw.get (i := 1) rfl))) (fun x15 ex15 h => ?_)
          refine L.y rfl (Y.loadE1 (u := .int .i64 x15) ag3 rfl (fun w hw => As.at_ (hw.get (i := 1) rfl)) (idx_map ex15)) ?_
          refine L.y rfl (Y.assign rfl) ?_
          refine L.nil (E.thenN (W.seq (W.region (L.y rfl (Y.move rfl) ?_))))
          refine L.y rfl (Y.move rfl) ?_
          refine L.callVJ (fun v D => ∃ (gb11 : Bool), v = .bool gb11 ∧ D = Cls w [] [.obj b1 [u0_0, u0_2] 47, .sl v7 3 1 (gl8.map I)] ∧ m21_order_Serial_K9 gx10 go1 gl8 gx9 x15 gb11 = some r) rfl en64 rfl rfl Try.func64 rfl rfl rfl ?_ ?_
          ·
           refine W.seq (W.region (L.box rfl rfl ?_))
           intro b21
           refine L.y rfl (Y.assign rfl) ?_
           refine L.nil (E.thenN (W.seq (W.region (L.y rfl (Y.fieldP fd47_0 rfl) ?_))))
           refine L.y rfl (Y.loadP (i := 1) ag44 rfl rfl rfl) ?_
           refine L.y rfl (Y.func rfl) ?_
           refine L.callJ (fun v D => ∃ (gb12 : Bool), v = .bool gb12 ∧ D = Cls w [] [.obj b1 [u0_0, u0_2] 47, .sl v7 3 1 (gl8.map I)] ∧ m21_order_Serial_K10 gx10 go1 gl8 gx9 x15 gb12 = some r) rfl en53 rfl Try.func53 rfl rfl rfl ?_ ?_
           ·
            refine W.seq (W.region (L.y rfl (Y.assign rfl) ?_))
            refine L.nil (E.thenN (W.seq (W.region (L.y rfl (Y.move rfl) ?_))))
            refine L.y rfl (Y.move rfl) ?_
            refine L.callJ (fun v D => ∃ (gx13 : Int), v = .int .i64 gx13 ∧ D = Cls w [] [.obj b1 [u0_0, u0_2] 47, .sl v7 3 1 (gl8.map I)] ∧ m21_order_Serial_K11 gx10 go1 gl8 gx9 x15 gx13 = some r) rfl en114 rfl Try.func114 rfl rfl rfl ?_ ?_
            ·
             refine W.seq (W.region (L.y rfl (Y.assign rfl) ?_))
             refine L.nil (E.thenN (W.seqJ (fun gs D => gs = [] ∧ D = Cls w [] [.obj b1 [u0_0, u0_2] 47, .sl v7 3 1 (gl8.map I)] ∧ m21_order_Serial_K12 gx10 go1 gl8 gx9 x15 = some r) ?_ ?_))
             ·
              refine W.seq (W.region (L.y rfl (Y.move rfl) ?_))
              refine L.y rfl (Y.lenMZ (row := TTale.rowv) (vs := q0_0) (l := a0.Tales) Try.underlying44 rfl (fun w' hw => hA0_0.cls0 hw)) ?_
              refine L.y rfl (Y.move rfl) ?_
              refine L.nil (E.thenN (W.block (W.loopJ (fun m gs D => ∃ (gx14 : Int), gs = [(0, u0_0), (1, .func (.func 65) #[] #[pt b21 0]), (7, .int .i64 (a0.Tales.length : Int)), (8, .int .i64 gx14)] ∧ D = Cls w [] [.obj b21 [.int .i64 x15] 3, .obj b1 [u0_0, u0_2] 47, .sl v7 3 1 (gl8.map I)] ∧ m21_order_Serial_L2 a0 x15 gx10 go1 gl8 gx9 m gx14 = some r) ⟨0, rfl, rfl, h⟩ ⟨rfl, rfl, rfl, rfl, trivial⟩ (fun _ hw => hw) ?_)))
              rintro m _ _ ⟨gx14, rfl, rfl, h⟩
              rcases m with _ | m
              · rw [m21_order_Serial_L2] at h; cases h
              rw [m21_order_Serial_L2] at h
              generalize hg2 : m21_order_Serial_L2 a0 x15 gx10 go1 gl8 gx9 m = go2 at h
              rw [m21_order_Serial_L2B] at h
              refine W.seq (W.region (L.ite h rfl (Y.lss rfl rfl) (fun c22 h => ?_) (fun c22 h => ?_)))
              ·
               refine L.nil (E.thenN (W.seq (W.condT rfl ?_)))
               refine W.skip (E.thenN (W.seq (W.block (W.seq (W.region (L.y rfl (Y.move rfl) ?_))))))
               refine L.y rfl (Y.assign rfl) ?_
               refine L.nil (E.thenN (W.seq (W.region (L.y rfl (Y.move rfl) ?_))))
               refine L.y rfl (Y.move rfl) ?_
               refine L.y rfl (Y.move rfl) ?_
               refine L.m (V := fun _ => el u0_0 (gx14.toNat * 2)) h rfl (Y.indexMZ (row := TTale.rowv) (vs := q0_0) (l := a0.Tales) Try.underlying44 sz101 rfl rfl (fun w' hw => hA0_0.cls0 hw)) (fun x23 ex23 h => ?_)
               refine L.y rfl (Y.loadEN (r := [.int .i64 x23.Tx, gv (q0_0 gx14.toNat) 0]) ag101 sz101 rfl (fun w' hw => hA0_0.cls0 hw) (zr_idx (vs := q0_0) ex23) rfl) ?_
               refine L.callVJ (fun v D => v = .bool (decide (x23.Tx = x15)) ∧ D = Cls w [] [.obj b21 [.int .i64 x15] 3, .obj b1 [u0_0, u0_2] 47, .sl v7 3 1 (gl8.map I)] ∧ m21_order_Serial_K13 x23 x15 gx10 go1 gl8 gx9 gx14 go2 = some r) rfl en65 rfl rfl Try.func65 rfl rfl rfl ?_ ?_
               ·
                refine W.seq (W.region (L.box rfl rfl ?_))
                intro b25
                refine L.y rfl (Y.assign rfl) ?_
                refine L.nil (E.thenN (W.seq (W.region (L.y rfl (Y.fieldP fd101_0 rfl) ?_))))
                refine L.y rfl (Y.loadP (i := 0) ag3 rfl rfl rfl) ?_
                refine L.y rfl (Y.loadP (i := 1) ag3 rfl rfl rfl) ?_
                refine L.y rfl (Y.eql rfl rfl) ?_
                refine L.y rfl (Y.assign rfl) ?_
                refine L.nil (E.thenN (W.ret (E.ret1 rfl rfl (fun w1 hw => ?_))))
                exact ⟨_, _, rfl, ⟨rfl, rfl, h⟩, hw.sel [1, 2, 3] (by decide) rfl⟩
               ·
                rintro _ _ ⟨rfl, rfl, h⟩
                rw [m21_order_Serial_K13] at h
                refine L.nil (E.thenN (W.caseB (q := 16) h rfl (fun h => ?_) (fun h => ?_)))
                ·
                 refine W.condT rfl ?_
                 refine W.seq (W.region (L.y rfl (Y.move rfl) ?_))
                 refine L.y rfl (Y.assign rfl) ?_
                 refine L.nil (E.thenN (W.ret (E.blockR (E.thenR (E.KLR (E.blockR (E.KSR (E.ret1 rfl rfl (fun w1 hw => ?_)))))))))
                 exact ⟨_, _, rfl, ⟨gx14, rfl, rfl, h⟩, hw.sel [1, 2] (by decide) rfl⟩
                ·
                 refine W.condF rfl ?_
                 refine W.skip (E.blockN (E.thenN (W.region (L.m (V := fun x24 => .int .i64 x24) h rfl (Y.addM rfl rfl) (fun x24 ex24 h => ?_)))))
                 refine L.y rfl (Y.move rfl) ?_
                 exact L.nil (E.againJ ⟨x24, rfl, rfl, by rw [hg2]; exact h⟩ (Nat.lt_succ_self _) ⟨rfl, rfl, rfl, rfl, trivial⟩ (fun _ hw => hw))
              ·
               refine L.nil (E.thenN (W.seq (W.condF rfl ?_)))
               exact W.exit (E.thenX (E.KLX (E.blockX (E.joinJ ⟨rfl, rfl, h⟩ trivial (fun _ hw => hw.sel [1, 2] (by decide) rfl)))))
             ·
              rintro _ _ ⟨rfl, rfl, h⟩
              rw [m21_order_Serial_K12] at h
              refine W.seq (W.region (L.y rfl (Y.assign rfl) ?_))
              refine L.nil (E.thenN (W.ret (E.ret1 rfl rfl (fun w1 hw => ?_))))
              exact ⟨_, _, rfl, ⟨(-1), rfl, rfl, h⟩, hw⟩
            ·
             rintro _ _ ⟨gx13, rfl, rfl, h⟩
             rw [m21_order_Serial_K11] at h
             refine L.y rfl (Y.geq rfl rfl) ?_
             refine L.y rfl (Y.assign rfl) ?_
             refine L.nil (E.thenN (W.ret (E.ret1 rfl rfl (fun w1 hw => ?_))))
             exact ⟨_, _, rfl, ⟨decide (0 ≤ gx13), rfl, rfl, h⟩, hw⟩
           ·
            rintro _ _ ⟨gb12, rfl, rfl, h⟩
            rw [m21_order_Serial_K10] at h
            refine L.y rfl (Y.not rfl) ?_
            refine L.y rfl (Y.assign rfl) ?_
            refine L.nil (E.thenN (W.ret (E.ret1 rfl rfl (fun w1 hw => ?_))))
            exact ⟨_, _, rfl, ⟨(!gb12), rfl, rfl, h⟩, hw⟩
          ·
           rintro _ _ ⟨gb11, rfl, rfl, h⟩
           rw [m21_order_Serial_K9] at h
           rcases gb11 with _ | _
           ·
            replace h := iteF h
            refine L.y rfl (Y.not rfl) ?_
            refine L.nil (E.thenN (W.condT rfl ?_))
            refine W.seq (W.region (L.y rfl (Y.move rfl) ?_))
            refine L.y rfl (Y.move rfl) ?_
            refine L.y rfl (Y.move rfl) ?_
            refine L.m (V := fun _ => el v7 (gx9.toNat * 1)) h rfl (Y.indexM (g := I) (l := gl8) Try.underlying28 sz3 rfl rfl (fun w hw => As.at_ (hw.get (i := 1) rfl))) (fun x16 ex16 h => ?_)
            refine L.storeSlM (q := 1) (row := I) (vs := [.int .i64 x15]) (j := 0) (u1 := x15) h sz3 rfl rfl rfl rfl rfl (all1 rfl all0) rfl ex16 rfl rfl ?_
            intro l17 el17 h
            refine L.nil (E.thenN (W.region (L.y rfl (Y.move rfl) ?_)))
            refine L.m (V := fun x18 => .int .i64 x18) h rfl (Y.addM rfl rfl) (fun x18 ex18 h => ?_)
            refine L.y rfl (Y.assign rfl) ?_
            refine L.nil (E.blockN (E.thenN (W.region (L.y rfl (Y.move rfl) ?_))))
            refine L.m (V := fun x19 => .int .i64 x19) h rfl (Y.addM rfl rfl) (fun x19 ex19 h => ?_)
            refine L.y rfl (Y.assign rfl) ?_
            exact L.nil (E.againJ ⟨l17, x18, x19, rfl, rfl, by rw [hg1]; exact h⟩ (Nat.lt_succ_self _) ⟨rfl, rfl, rfl, rfl, trivial⟩ (fun _ hw => hw))
           ·
            replace h := iteT h
            refine L.y rfl (Y.not rfl) ?_
            refine L.nil (E.thenN (W.condF rfl ?_))
            refine W.skip (E.blockN (E.thenN (W.region (L.y rfl (Y.move rfl) ?_))))
            refine L.m (V := fun x20 => .int .i64 x20) h rfl (Y.addM rfl rfl) (fun x20 ex20 h => ?_)
            refine L.y rfl (Y.assign rfl) ?_
            exact L.nil (E.againJ ⟨gl8, gx9, x20, rfl, rfl, by rw [hg1]; exact h⟩ (Nat.lt_succ_self _) ⟨rfl, rfl, rfl, rfl, trivial⟩ (fun _ hw => hw))
        ·
         rintro _ _ ⟨gl6, gx7, rfl, rfl, h⟩
         rw [m21_order_Serial_K7] at h
         refine W.seq (W.region (L.y rfl (Y.move rfl) ?_))
         refine L.y rfl (Y.move rfl) ?_
         refine L.m (V := fun _ => dropv v7 gx7.toNat 1) h rfl (Y.dropM (g := I) Try.underlying28 sz3 rfl rfl (fun w hw => As.at_ (hw.get (i := 0) rfl))) (fun l10 el10 h => ?_)
         refine L.clearM (i := 0) (g := I) (z0 := 0) (a := gx7) h Try.underlying28 el3 ze3 (fun u hu => ((plain_ints _) : Plain ([0].map I)) _ (List.mem_cons_self ..) u hu) rfl rfl ?_
         intro l11 el11 h
         refine L.nil (E.thenN (W.seq (W.region (L.y rfl (Y.move rfl) ?_))))
         refine L.y rfl (Y.move rfl) ?_
         obtain ⟨l12, el12, h⟩ := bind1S h
         refine L.cutM (i := 0) (g := I) el12 rfl Try.underlying28 sz3 rfl rfl rfl (fun v13 => ?_)
         refine L.y rfl (Y.assign rfl) ?_
         refine L.nil (E.thenN (W.ret (E.ret1 rfl rfl (fun w1 hw => ?_))))
         exact ⟨_, _, rfl, ⟨v13, l12, rfl, rfl, h⟩, hw⟩
     ·
      rintro gv3 _ ⟨_, gl4, rfl, rfl, h⟩
      rw [m21_order_Serial_K4] at h
      refine L.y rfl (Y.assign rfl) ?_
      refine L.y rfl (Y.assign rfl) ?_
      refine L.nil (E.thenN (W.ret (E.ret2 rfl rfl rfl (fun w1 hw => ?_))))
      obtain rfl := Option.some.inj h
      exact ⟨_, _, rfl, ⟨_, rfl, rfl⟩, hw⟩
set_option maxRecDepth 100000 in
set_option maxHeartbeats 8000000 in
theorem w118_quirref_nextWriter (a0 : (List Int)) (a1 : Int) (u0 : Value) (w : World) (r : Int) (h : m118_quirref_nextWriter a0 a1 = some r) (hA0 : At w u0 1 (a0.map I)) : Does Try.prog 118 [u0, .int .i64 a1] w fun u m => u = .int .i64 r ∧ m = [] := by
  rw [m118_quirref_nextWriter] at h
  refine body (n := 35) Try.func118 rfl rfl rfl (Cls.refl w) ?_
  refine W.seq (W.region (L.y rfl (Y.assign rfl) ?_))
  refine L.nil (E.thenN (W.seqJ (fun gs D => gs = [] ∧ D = Cls w [] [] ∧ m118_quirref_nextWriter_K1 = some r) ?_ ?_))
  ·
   refine W.seq (W.region (L.y rfl (Y.move rfl) ?_))
   refine L.y rfl (Y.lenM (g := I) (l := a0) Try.underlying28 rfl (fun w' hw => hA0.cls0 hw)) ?_
   refine L.y rfl (Y.move rfl) ?_
   refine L.nil (E.thenN (W.block (W.loopJ (fun m gs D => ∃ (gx1 : Int), gs = [(0, u0), (1, .int .i64 a1), (7, u0), (8, .int .i64 (a0.length : Int)), (9, .int .i64 gx1)] ∧ D = Cls w [] [] ∧ m118_quirref_nextWriter_L1 a0 a1 m gx1 = some r) ⟨0, rfl, rfl, h⟩ ⟨rfl, rfl, rfl, rfl, rfl, trivial⟩ (fun _ hw => hw) ?_)))
   rintro m _ _ ⟨gx1, rfl, rfl, h⟩
   rcases m with _ | m
   · rw [m118_quirref_nextWriter_L1] at h; cases h
   rw [m118_quirref_nextWriter_L1] at h
   generalize hg1 : m118_quirref_nextWriter_L1 a0 a1 m = go1 at h
   rw [m118_quirref_nextWriter_L1B] at h
   refine W.seq (W.region (L.ite h rfl (Y.lss rfl rfl) (fun c1 h => ?_) (fun c1 h => ?_)))
   ·
    refine L.nil (E.thenN (W.seq (W.condT rfl ?_)))
    refine W.skip (E.thenN (W.seq (W.block (W.seq (W.region (L.y rfl (Y.move rfl) ?_))))))
    refine L.m (V := fun _ => el u0 (gx1.toNat * 1)) h rfl (Y.indexM (g := I) (l := a0) Try.underlying28 sz3 rfl rfl (fun w' hw => hA0.cls0 hw)) (fun x2 ex2 h => ?_)
    refine L.y rfl (Y.loadE1 (u := .int .i64 x2) ag3 rfl (fun w' hw => hA0.cls0 hw) (idx_map ex2)) ?_
    refine L.y rfl (Y.assign rfl) ?_
    refine L.y rfl (Y.assign rfl) ?_
    refine L.nil (E.thenN (W.seq (W.region (L.cutJ 6 (fun gs D => ∃ (gb2 : Bool), gs = [(0, u0), (1, .int .i64 a1), (5, .int .i64 gx1), (6, .int .i64 x2), (7, u0), (8, .int .i64 (a0.length : Int)), (9, .int .i64 gx1), (19, .bool gb2)] ∧ D = Cls w [] [] ∧ m118_quirref_nextWriter_K2 x2 gx1 a0 a1 go1 gb2 = some r) ?_ ?_))))
    ·
     refine L.y rfl (Y.move rfl) ?_
     refine L.ite h rfl (Y.eql rfl rfl) (fun c8 h => ?_) (fun c8 h => ?_)
     ·
      refine L.y rfl (Y.move rfl) ?_
      refine L.take rfl (L.y rfl (Y.move rfl) ?_)
      refine L.take rfl (L.ite h rfl (Y.eql rfl rfl) (fun c9 h => ?_) (fun c9 h => ?_))
      ·
       refine L.y rfl (Y.pickT rfl rfl) ?_
       exact L.nil (E.joinJ ⟨true, rfl, rfl, h⟩ ⟨rfl, rfl, rfl, rfl, rfl, rfl, rfl, rfl, trivial⟩ (fun _ hw => hw))
      ·
       refine L.y rfl (Y.pickT rfl rfl) ?_
       exact L.nil (E.joinJ ⟨false, rfl, rfl, h⟩ ⟨rfl, rfl, rfl, rfl, rfl, rfl, rfl, rfl, trivial⟩ (fun _ hw => hw))
     ·
      refine L.y rfl (Y.move rfl) ?_
      refine L.pass rfl rfl (by nofun) ?_
      refine L.pass rfl rfl (by nofun) ?_
      refine L.y rfl (Y.pickF rfl rfl) ?_
      exact L.nil (E.joinJ ⟨false, rfl, rfl, h⟩ ⟨rfl, rfl, rfl, rfl, rfl, rfl, rfl, rfl, trivial⟩ (fun _ hw => hw))
    ·
     rintro _ _ ⟨gb2, rfl, rfl, h⟩
     rw [m118_quirref_nextWriter_K2] at h
     rcases gb2 with _ | _
     ·
      replace h := iteF h
      refine L.cutJ 12 (fun gs D => ∃ (gb3 : Bool), gs = [(0, u0), (1, .int .i64 a1), (6, .int .i64 x2), (7, u0), (8, .int .i64 (a0.length : Int)), (9, .int .i64 gx1), (20, .bool false), (31, .bool gb3)] ∧ D = Cls w [] [] ∧ m118_quirref_nextWriter_K3 x2 gx1 go1 gb3 = some r) ?_ ?_
      ·
       refine L.y rfl (Y.move rfl) ?_
       refine L.take rfl (L.y rfl (Y.move rfl) ?_)
       refine L.take rfl (L.ite h rfl (Y.gtr rfl rfl) (fun c4 h => ?_) (fun c4 h => ?_))
       ·
        refine L.take rfl (L.y rfl (Y.move rfl) ?_)
        refine L.take rfl (L.y rfl (Y.move rfl) ?_)
        refine L.take rfl (L.y rfl (Y.move rfl) ?_)
        refine L.take rfl (L.m (V := fun x5 => .int .i64 x5) h rfl (Y.subM rfl rfl) (fun x5 ex5 h => ?_))
        refine L.take rfl (L.m (V := fun _ => el u0 (x5.toNat * 1)) h rfl (Y.indexM (g := I) (l := a0) Try.underlying28 sz3 rfl rfl (fun w' hw => hA0.cls0 hw)) (fun x6 ex6 h => ?_))
        refine L.take rfl (L.y rfl (Y.loadE1 (u := .int .i64 x6) ag3 rfl (fun w' hw => hA0.cls0 hw) (idx_map ex6)) ?_)
        refine L.take rfl (L.y rfl (Y.move rfl) ?_)
        refine L.take rfl (L.ite h rfl (Y.eql rfl rfl) (fun c7 h => ?_) (fun c7 h => ?_))
        ·
         refine L.take rfl (L.y rfl (Y.pickT rfl rfl) ?_)
         exact L.nil (E.joinJ ⟨true, rfl, rfl, h⟩ ⟨rfl, rfl, rfl, rfl, rfl, rfl, rfl, rfl, trivial⟩ (fun _ hw => hw))
        ·
         refine L.take rfl (L.y rfl (Y.pickT rfl rfl) ?_)
         exact L.nil (E.joinJ ⟨false, rfl, rfl, h⟩ ⟨rfl, rfl, rfl, rfl, rfl, rfl, rfl, rfl, trivial⟩ (fun _ hw => hw))
       ·
        refine L.take rfl (L.y rfl (Y.move rfl) ?_)
        refine L.pass rfl rfl (by nofun) ?_
        refine L.pass rfl rfl (by nofun) ?_
        refine L.pass rfl rfl (by nofun) ?_
        refine L.pass rfl rfl (by nofun) ?_
        refine L.pass rfl rfl (by nofun) ?_
        refine L.pass rfl rfl (by nofun) ?_
        refine L.pass rfl rfl (by nofun) ?_
        refine L.take rfl (L.y rfl (Y.pickF rfl rfl) ?_)
        exact L.nil (E.joinJ ⟨false, rfl, rfl, h⟩ ⟨rfl, rfl, rfl, rfl, rfl, rfl, rfl, rfl, trivial⟩ (fun _ hw => hw))
      ·
       rintro _ _ ⟨gb3, rfl, rfl, h⟩
       rw [m118_quirref_nextWriter_K3] at h
       rcases gb3 with _ | _
       ·
        replace h := iteF h
        refine L.y rfl (Y.pickF rfl rfl) ?_
        refine L.nil (E.thenN (W.condF rfl ?_))
        refine W.skip (E.blockN (E.thenN (W.region (L.m (V := fun x3 => .int .i64 x3) h rfl (Y.addM rfl rfl) (fun x3 ex3 h => ?_)))))
        refine L.y rfl (Y.move rfl) ?_
        exact L.nil (E.againJ ⟨x3, rfl, rfl, by rw [hg1]; exact h⟩ (Nat.lt_succ_self _) ⟨rfl, rfl, rfl, rfl, rfl, trivial⟩ (fun _ hw => hw))
       ·
        replace h := iteT h
        refine L.y rfl (Y.pickF rfl rfl) ?_
        refine L.nil (E.thenN (W.condT rfl ?_))
        refine W.seq (W.region (L.y rfl (Y.move rfl) ?_))
        refine L.y rfl (Y.assign rfl) ?_
        refine L.nil (E.thenN (W.ret (E.blockR (E.thenR (E.KLR (E.blockR (E.KSR (E.ret1 rfl rfl (fun w1 hw => ?_)))))))))
        obtain rfl := Option.some.inj h
        exact ⟨_, _, rfl, ⟨rfl, rfl⟩, hw⟩
     ·
      replace h := iteT h
      refine L.y rfl (Y.move rfl) ?_
      refine L.pass rfl rfl (by nofun) ?_
      refine L.pass rfl rfl (by nofun) ?_
      refine L.pass rfl rfl (by nofun) ?_
      refine L.pass rfl rfl (by nofun) ?_
      refine L.pass rfl rfl (by nofun) ?_
      refine L.pass rfl rfl (by nofun) ?_
      refine L.pass rfl rfl (by nofun) ?_
      refine L.pass rfl rfl (by nofun) ?_
      refine L.pass rfl rfl (by nofun) ?_
      refine L.pass rfl rfl (by nofun) ?_
      refine L.pass rfl rfl (by nofun) ?_
      refine L.y rfl (Y.pickT rfl rfl) ?_
      refine L.nil (E.thenN (W.condT rfl ?_))
      refine W.seq (W.region (L.y rfl (Y.move rfl) ?_))
      refine L.y rfl (Y.assign rfl) ?_
      refine L.nil (E.thenN (W.ret (E.blockR (E.thenR (E.KLR (E.blockR (E.KSR (E.ret1 rfl rfl (fun w1 hw => ?_)))))))))
      obtain rfl := Option.some.inj h
      exact ⟨_, _, rfl, ⟨rfl, rfl⟩, hw⟩
   ·
    refine L.nil (E.thenN (W.seq (W.condF rfl ?_)))
    exact W.exit (E.thenX (E.KLX (E.blockX (E.joinJ ⟨rfl, rfl, h⟩ trivial (fun _ hw => hw)))))
  ·
   rintro _ _ ⟨rfl, rfl, h⟩
   rw [m118_quirref_nextWriter_K1] at h
   refine W.seq (W.region (L.y rfl (Y.assign rfl) ?_))
   refine L.nil (E.thenN (W.ret (E.ret1 rfl rfl (fun w1 hw => ?_))))
   obtain rfl := Option.some.inj h
   exact ⟨_, _, rfl, ⟨rfl, rfl⟩, hw⟩
end Go.Proofs.Ytkhlapdkomnldaa
