/-
  Walks, printed by a program of mine.
  Conditions: none.
-/
import Derived.Test.YtjhcdmcikodgkaaGrM
import Derived.Test.YtjhcdmcikodgkaaChecked
import Derived.KernelRfl
import Derived.Test.YtjhcdmcikodgkaaSo
import Derived.Test.YtjhcdmcikodgkaaGrO
namespace Go.Proofs.Ytjhcdmcikodgkaa
open Go.S
set_option linter.unusedVariables false
set_option linter.unusedSimpArgs false
theorem mixed : Try.prog.follows .mixedOrders = true := by kernel_rfl
theorem ag3 : aggB Try.prog 3 false = true := by kernel_rfl
theorem ag4 : aggB Try.prog 4 false = true := by kernel_rfl
theorem ag25 : aggB Try.prog 25 false = true := by kernel_rfl
theorem ag28 : aggB Try.prog 28 false = true := by kernel_rfl
theorem ag37 : aggB Try.prog 37 false = true := by kernel_rfl
theorem ag46 : aggB Try.prog 46 true = true := by kernel_rfl
theorem eL3 : elemB Try.prog 3 1 8 = true := by kernel_rfl
theorem eL4 : elemB Try.prog 4 1 1 = true := by kernel_rfl
theorem eL25 : elemB Try.prog 25 1 24 = true := by kernel_rfl
theorem eL37 : elemB Try.prog 37 1 24 = true := by kernel_rfl
theorem en5 : entB Try.prog 5 = true := by kernel_rfl
theorem en6 : entB Try.prog 6 = true := by kernel_rfl
theorem en7 : entB Try.prog 7 = true := by kernel_rfl
theorem en8 : entB Try.prog 8 = true := by kernel_rfl
theorem en9 : entB Try.prog 9 = true := by kernel_rfl
theorem en10 : entB Try.prog 10 = true := by kernel_rfl
theorem en11 : entB Try.prog 11 = true := by kernel_rfl
theorem en12 : entB Try.prog 12 = true := by kernel_rfl
theorem en13 : entB Try.prog 13 = true := by kernel_rfl
theorem en14 : entB Try.prog 14 = true := by kernel_rfl
theorem en20 : entB Try.prog 20 = true := by kernel_rfl
theorem en21 : entB Try.prog 21 = true := by kernel_rfl
theorem en22 : entB Try.prog 22 = true := by kernel_rfl
theorem en23 : entB Try.prog 23 = true := by kernel_rfl
theorem en24 : entB Try.prog 24 = true := by kernel_rfl
theorem en25 : entB Try.prog 25 = true := by kernel_rfl
theorem en31 : entB Try.prog 31 = true := by kernel_rfl
theorem en34 : entB Try.prog 34 = true := by kernel_rfl
theorem en35 : entB Try.prog 35 = true := by kernel_rfl
theorem fd46_0 : fieldB Try.prog 46 0 0 = true := by kernel_rfl
theorem fd46_1 : fieldB Try.prog 46 1 1 = true := by kernel_rfl
theorem fd50_0 : fieldB Try.prog 50 0 0 = true := by kernel_rfl
theorem fd50_1 : fieldB Try.prog 50 1 1 = true := by kernel_rfl
theorem fd50_2 : fieldB Try.prog 50 2 2 = true := by kernel_rfl
theorem fd50_3 : fieldB Try.prog 50 3 3 = true := by kernel_rfl
theorem fd50_4 : fieldB Try.prog 50 4 4 = true := by kernel_rfl
theorem fd50_5 : fieldB Try.prog 50 5 5 = true := by kernel_rfl
theorem sz3 : szB Try.prog 3 1 = true := by kernel_rfl
theorem sz4 : szB Try.prog 4 1 = true := by kernel_rfl
theorem sz25 : szB Try.prog 25 1 = true := by kernel_rfl
theorem sz28 : szB Try.prog 28 1 = true := by kernel_rfl
theorem sz37 : szB Try.prog 37 1 = true := by kernel_rfl
theorem sz46 : szB Try.prog 46 2 = true := by kernel_rfl
theorem ze3 : zeroB Try.prog 3 = some [.int .i64 0] := by kernel_rfl
theorem ze4 : zeroB Try.prog 4 = some [.bool false] := by kernel_rfl
theorem ze25 : zeroB Try.prog 25 = some [.slice none 0 0] := by kernel_rfl
theorem ze37 : zeroB Try.prog 37 = some [.slice none 0 0] := by kernel_rfl
theorem ze46 : zeroB Try.prog 46 = some [.int .i64 0, .int .i64 0] := by kernel_rfl
theorem plain_TEdge (l : List TEdge) : Plain (l.map TEdge.row) := by
  intro r hr u hu
  obtain ⟨x, _, rfl⟩ := List.mem_map.1 hr
  simp only [TEdge.row, List.mem_cons, List.not_mem_nil, or_false] at hu
  rcases hu with rfl | rfl <;> rfl
set_option maxRecDepth 100000 in
set_option maxHeartbeats 8000000 in
theorem w5_quirref_GraphErr (a0 : Int) (a1 : (List TEdge)) (u1 : Value) (w : World) (r : Int) (h : m5_quirref_GraphErr a0 a1 = some r) (hA1 : At w u1 2 (a1.map TEdge.row)) : Does Try.prog 5 [.int .i64 a0, u1] w fun u m => u = .int .i64 r ∧ m = [] := by
  rw [m5_quirref_GraphErr] at h
  refine body (n := 38) Try.func5 rfl rfl rfl (Cls.refl w) ?_
  refine W.seq (W.region (L.y rfl (Y.assign rfl) ?_))
  refine L.nil (E.thenN (W.seqJ (fun gs D => gs = [(0, .int .i64 a0), (1, u1)] ∧ D = Cls w [] [] ∧ m5_quirref_GraphErr_K1 a1 a0 = some r) ?_ ?_))
  ·
   refine W.seq (W.region (L.y rfl (Y.move rfl) ?_))
   refine L.ite h rfl (Y.lss rfl rfl) (fun c8 h => ?_) (fun c8 h => ?_)
   ·
    refine L.y rfl (Y.move rfl) ?_
    refine L.pass rfl rfl (by nofun) ?_
    refine L.pass rfl rfl (by nofun) ?_
    refine L.y rfl (Y.pickT rfl rfl) ?_
    refine L.nil (E.thenN (W.condT rfl ?_))
    refine W.seq (W.region (L.y rfl (Y.assign rfl) ?_))
    refine L.nil (E.thenN (W.ret (E.KSR (E.ret1 rfl rfl (fun w1 hw => ?_)))))
    obtain rfl := Option.some.inj h
    exact ⟨_, _, rfl, ⟨rfl, rfl⟩, hw⟩
   ·
    refine L.y rfl (Y.move rfl) ?_
    refine L.take rfl (L.y rfl (Y.move rfl) ?_)
    refine L.take rfl (L.ite h rfl (Y.gtr rfl rfl) (fun c9 h => ?_) (fun c9 h => ?_))
    ·
     refine L.y rfl (Y.pickF rfl rfl) ?_
     refine L.nil (E.thenN (W.condT rfl ?_))
     refine W.seq (W.region (L.y rfl (Y.assign rfl) ?_))
     refine L.nil (E.thenN (W.ret (E.KSR (E.ret1 rfl rfl (fun w1 hw => ?_)))))
     obtain rfl := Option.some.inj h
     exact ⟨_, _, rfl, ⟨rfl, rfl⟩, hw⟩
    ·
     refine L.y rfl (Y.pickF rfl rfl) ?_
     refine L.nil (E.thenN (W.condF rfl ?_))
     exact W.skip (E.joinJ ⟨rfl, rfl, h⟩ ⟨rfl, rfl, trivial⟩ (fun _ hw => hw))
  ·
   rintro _ _ ⟨rfl, rfl, h⟩
   rw [m5_quirref_GraphErr_K1] at h
   refine W.seqJ (fun gs D => gs = [(0, .int .i64 a0), (1, u1)] ∧ D = Cls w [] [] ∧ m5_quirref_GraphErr_K2 a1 a0 = some r) ?_ ?_
   ·
    refine W.seq (W.region (L.y rfl (Y.move rfl) ?_))
    refine L.y rfl (Y.lenM (g := TEdge.row) (l := a1) Try.underlying22 rfl (fun w' hw => hA1.cls0 hw)) ?_
    refine L.ite h rfl (Y.gtr rfl rfl) (fun c7 h => ?_) (fun c7 h => ?_)
    ·
     refine L.nil (E.thenN (W.condT rfl ?_))
     refine W.seq (W.region (L.y rfl (Y.assign rfl) ?_))
     refine L.nil (E.thenN (W.ret (E.KSR (E.ret1 rfl rfl (fun w1 hw => ?_)))))
     obtain rfl := Option.some.inj h
     exact ⟨_, _, rfl, ⟨rfl, rfl⟩, hw⟩
    ·
     refine L.nil (E.thenN (W.condF rfl ?_))
     exact W.skip (E.joinJ ⟨rfl, rfl, h⟩ ⟨rfl, rfl, trivial⟩ (fun _ hw => hw))
   ·
    rintro _ _ ⟨rfl, rfl, h⟩
    rw [m5_quirref_GraphErr_K2] at h
    refine W.seqJ (fun gs D => gs = [] ∧ D = Cls w [] [] ∧ m5_quirref_GraphErr_K3 = some r) ?_ ?_
    ·
     refine W.seq (W.region (L.y rfl (Y.move rfl) ?_))
     refine L.y rfl (Y.lenM (g := TEdge.row) (l := a1) Try.underlying22 rfl (fun w' hw => hA1.cls0 hw)) ?_
     refine L.y rfl (Y.move rfl) ?_
     refine L.nil (E.thenN (W.block (W.loopJ (fun m gs D => ∃ (gx1 : Int), gs = [(0, .int .i64 a0), (16, u1), (17, .int .i64 (a1.length : Int)), (18, .int .i64 gx1)] ∧ D = Cls w [] [] ∧ m5_quirref_GraphErr_L1 a1 a0 m gx1 = some r) ⟨0, rfl, rfl, h⟩ ⟨rfl, rfl, rfl, rfl, trivial⟩ (fun _ hw => hw) ?_)))
     rintro m _ _ ⟨gx1, rfl, rfl, h⟩
     rcases m with _ | m
     · rw [m5_quirref_GraphErr_L1] at h; cases h
     rw [m5_quirref_GraphErr_L1] at h
     generalize hg1 : m5_quirref_GraphErr_L1 a1 a0 m = go1 at h
     rw [m5_quirref_GraphErr_L1B] at h
     refine W.seq (W.region (L.ite h rfl (Y.lss rfl rfl) (fun c1 h => ?_) (fun c1 h => ?_)))
     ·
      refine L.nil (E.thenN (W.seq (W.condT rfl ?_)))
      refine W.skip (E.thenN (W.seq (W.block (W.seq (W.region (L.m (V := fun _ => el u1 (gx1.toNat * 2)) h rfl (Y.indexM (g := TEdge.row) (l := a1) Try.underlying22 sz46 rfl rfl (fun w' hw => hA1.cls0 hw)) (fun x2 ex2 h => ?_)))))))
      refine L.y rfl (Y.loadEN (r := [.int .i64 x2.From, .int .i64 x2.To]) ag46 sz46 rfl (fun w' hw => hA1.cls0 hw) (idx_map ex2) rfl) ?_
      refine L.alloc rfl ze46 ?_
      intro b3
      refine L.store (i := 0) (vs := [.int .i64 x2.From, .int .i64 x2.To]) sz46 rfl rfl rfl rfl (by simp [Value.oneCell', Value.cells, st, pt, el]) rfl (Nat.le_of_ble_eq_true rfl) ?_
      refine L.nil (E.thenN (W.seq (W.region (L.y rfl (Y.fieldP fd46_0 rfl) ?_))))
      refine L.y rfl (Y.loadP (i := 0) ag3 rfl rfl rfl) ?_
      refine L.y rfl (Y.fieldP fd46_1 rfl) ?_
      refine L.y rfl (Y.loadP (i := 0) ag3 rfl rfl rfl) ?_
      refine L.y rfl (Y.min2 rfl rfl) ?_
      refine L.ite h rfl (Y.lss rfl rfl) (fun c4 h => ?_) (fun c4 h => ?_)
      ·
       refine L.y rfl (Y.move rfl) ?_
       refine L.pass rfl rfl (by nofun) ?_
       refine L.pass rfl rfl (by nofun) ?_
       refine L.pass rfl rfl (by nofun) ?_
       refine L.pass rfl rfl (by nofun) ?_
       refine L.pass rfl rfl (by nofun) ?_
       refine L.pass rfl rfl (by nofun) ?_
       refine L.pass rfl rfl (by nofun) ?_
       refine L.y rfl (Y.pickT rfl rfl) ?_
       refine L.nil (E.thenN (W.condT rfl ?_))
       refine W.seq (W.region (L.y rfl (Y.assign rfl) ?_))
       refine L.nil (E.thenN (W.ret (E.blockR (E.thenR (E.KLR (E.blockR (E.KSR (E.ret1 rfl rfl (fun w1 hw => ?_)))))))))
       obtain rfl := Option.some.inj h
       exact ⟨_, _, rfl, ⟨rfl, rfl⟩, hw.sel [] (by decide) rfl⟩
      ·
       refine L.y rfl (Y.move rfl) ?_
       refine L.take rfl (L.y rfl (Y.fieldP fd46_0 rfl) ?_)
       refine L.take rfl (L.y rfl (Y.loadP (i := 0) ag3 rfl rfl rfl) ?_)
       refine L.take rfl (L.y rfl (Y.fieldP fd46_1 rfl) ?_)
       refine L.take rfl (L.y rfl (Y.loadP (i := 0) ag3 rfl rfl rfl) ?_)
       refine L.take rfl (L.y rfl (Y.max2 rfl rfl) ?_)
       refine L.take rfl (L.y rfl (Y.move rfl) ?_)
       refine L.take rfl (L.ite h rfl (Y.geq rfl rfl) (fun c5 h => ?_) (fun c5 h => ?_))
       ·
        refine L.y rfl (Y.pickF rfl rfl) ?_
        refine L.nil (E.thenN (W.condT rfl ?_))
        refine W.seq (W.region (L.y rfl (Y.assign rfl) ?_))
        refine L.nil (E.thenN (W.ret (E.blockR (E.thenR (E.KLR (E.blockR (E.KSR (E.ret1 rfl rfl (fun w1 hw => ?_)))))))))
        obtain rfl := Option.some.inj h
        exact ⟨_, _, rfl, ⟨rfl, rfl⟩, hw.sel [] (by decide) rfl⟩
       ·
        refine L.y rfl (Y.pickF rfl rfl) ?_
        refine L.nil (E.thenN (W.condF rfl ?_))
        refine W.skip (E.blockN (E.thenN (W.region (L.m (V := fun x6 => .int .i64 x6) h rfl (Y.addM rfl rfl) (fun x6 ex6 h => ?_)))))
        refine L.y rfl (Y.move rfl) ?_
        exact L.nil (E.againJ ⟨x6, rfl, rfl, by rw [hg1]; exact h⟩ (Nat.lt_succ_self _) ⟨rfl, rfl, rfl, rfl, trivial⟩ (fun _ hw => hw.sel [] (by decide) rfl))
     ·
      refine L.nil (E.thenN (W.seq (W.condF rfl ?_)))
      exact W.exit (E.thenX (E.KLX (E.blockX (E.joinJ ⟨rfl, rfl, h⟩ trivial (fun _ hw => hw)))))
    ·
     rintro _ _ ⟨rfl, rfl, h⟩
     rw [m5_quirref_GraphErr_K3] at h
     refine W.seq (W.region (L.y rfl (Y.assign rfl) ?_))
     refine L.nil (E.thenN (W.ret (E.ret1 rfl rfl (fun w1 hw => ?_))))
     obtain rfl := Option.some.inj h
     exact ⟨_, _, rfl, ⟨rfl, rfl⟩, hw⟩
set_option maxRecDepth 100000 in
set_option maxHeartbeats 8000000 in
theorem w9_graph_Check (a0 : Int) (a1 : (List TEdge)) (u1 : Value) (w : World) (r : Int) (h : m9_graph_Check a0 a1 = some r) (hA1 : At w u1 2 (a1.map TEdge.row)) : Does Try.prog 9 [.int .i64 a0, u1] w fun u m => u = .int .i64 r ∧ m = [] := by
  rw [m9_graph_Check] at h
  refine body (n := 43) Try.func9 rfl rfl rfl (Cls.refl w) ?_
  refine W.seq (W.region (L.y rfl (Y.assign rfl) ?_))
  refine L.nil (E.thenN (W.seqJ (fun gs D => gs = [(0, .int .i64 a0), (1, u1)] ∧ D = Cls w [] [] ∧ m9_graph_Check_K1 a1 a0 = some r) ?_ ?_))
  ·
   refine W.seq (W.region (L.y rfl (Y.move rfl) ?_))
   refine L.ite h rfl (Y.lss rfl rfl) (fun c10 h => ?_) (fun c10 h => ?_)
   ·
    refine L.y rfl (Y.move rfl) ?_
    refine L.pass rfl rfl (by nofun) ?_
    refine L.pass rfl rfl (by nofun) ?_
    refine L.y rfl (Y.pickT rfl rfl) ?_
    refine L.nil (E.thenN (W.condT rfl ?_))
    refine W.seq (W.region (L.y rfl (Y.assign rfl) ?_))
    refine L.nil (E.thenN (W.ret (E.KSR (E.ret1 rfl rfl (fun w1 hw => ?_)))))
    obtain rfl := Option.some.inj h
    exact ⟨_, _, rfl, ⟨rfl, rfl⟩, hw⟩
   ·
    refine L.y rfl (Y.move rfl) ?_
    refine L.take rfl (L.y rfl (Y.move rfl) ?_)
    refine L.take rfl (L.ite h rfl (Y.gtr rfl rfl) (fun c11 h => ?_) (fun c11 h => ?_))
    ·
     refine L.y rfl (Y.pickF rfl rfl) ?_
     refine L.nil (E.thenN (W.condT rfl ?_))
     refine W.seq (W.region (L.y rfl (Y.assign rfl) ?_))
     refine L.nil (E.thenN (W.ret (E.KSR (E.ret1 rfl rfl (fun w1 hw => ?_)))))
     obtain rfl := Option.some.inj h
     exact ⟨_, _, rfl, ⟨rfl, rfl⟩, hw⟩
    ·
     refine L.y rfl (Y.pickF rfl rfl) ?_
     refine L.nil (E.thenN (W.condF rfl ?_))
     exact W.skip (E.joinJ ⟨rfl, rfl, h⟩ ⟨rfl, rfl, trivial⟩ (fun _ hw => hw))
  ·
   rintro _ _ ⟨rfl, rfl, h⟩
   rw [m9_graph_Check_K1] at h
   refine W.seqJ (fun gs D => gs = [(0, .int .i64 a0), (1, u1)] ∧ D = Cls w [] [] ∧ m9_graph_Check_K2 a1 a0 = some r) ?_ ?_
   ·
    refine W.seq (W.region (L.y rfl (Y.move rfl) ?_))
    refine L.y rfl (Y.lenM (g := TEdge.row) (l := a1) Try.underlying22 rfl (fun w' hw => hA1.cls0 hw)) ?_
    refine L.ite h rfl (Y.gtr rfl rfl) (fun c9 h => ?_) (fun c9 h => ?_)
    ·
     refine L.nil (E.thenN (W.condT rfl ?_))
     refine W.seq (W.region (L.y rfl (Y.assign rfl) ?_))
     refine L.nil (E.thenN (W.ret (E.KSR (E.ret1 rfl rfl (fun w1 hw => ?_)))))
     obtain rfl := Option.some.inj h
     exact ⟨_, _, rfl, ⟨rfl, rfl⟩, hw⟩
    ·
     refine L.nil (E.thenN (W.condF rfl ?_))
     exact W.skip (E.joinJ ⟨rfl, rfl, h⟩ ⟨rfl, rfl, trivial⟩ (fun _ hw => hw))
   ·
    rintro _ _ ⟨rfl, rfl, h⟩
    rw [m9_graph_Check_K2] at h
    refine W.seqJ (fun gs D => gs = [] ∧ D = Cls w [] [] ∧ m9_graph_Check_K3 = some r) ?_ ?_
    ·
     refine W.seq (W.region (L.y rfl (Y.move rfl) ?_))
     refine L.y rfl (Y.lenM (g := TEdge.row) (l := a1) Try.underlying22 rfl (fun w' hw => hA1.cls0 hw)) ?_
     refine L.y rfl (Y.move rfl) ?_
     refine L.nil (E.thenN (W.block (W.loopJ (fun m gs D => ∃ (gx1 : Int), gs = [(0, .int .i64 a0), (16, u1), (17, .int .i64 (a1.length : Int)), (18, .int .i64 gx1)] ∧ D = Cls w [] [] ∧ m9_graph_Check_L1 a1 a0 m gx1 = some r) ⟨0, rfl, rfl, h⟩ ⟨rfl, rfl, rfl, rfl, trivial⟩ (fun _ hw => hw) ?_)))
     rintro m _ _ ⟨gx1, rfl, rfl, h⟩
     rcases m with _ | m
     · rw [m9_graph_Check_L1] at h; cases h
     rw [m9_graph_Check_L1] at h
     generalize hg1 : m9_graph_Check_L1 a1 a0 m = go1 at h
     rw [m9_graph_Check_L1B] at h
     refine W.seq (W.region (L.ite h rfl (Y.lss rfl rfl) (fun c1 h => ?_) (fun c1 h => ?_)))
     ·
      refine L.nil (E.thenN (W.seq (W.condT rfl ?_)))
      refine W.skip (E.thenN (W.seq (W.block (W.seq (W.region (L.m (V := fun _ => el u1 (gx1.toNat * 2)) h rfl (Y.indexM (g := TEdge.row) (l := a1) Try.underlying22 sz46 rfl rfl (fun w' hw => hA1.cls0 hw)) (fun x2 ex2 h => ?_)))))))
      refine L.y rfl (Y.loadEN (r := [.int .i64 x2.From, .int .i64 x2.To]) ag46 sz46 rfl (fun w' hw => hA1.cls0 hw) (idx_map ex2) rfl) ?_
      refine L.alloc rfl ze46 ?_
      intro b3
      refine L.store (i := 0) (vs := [.int .i64 x2.From, .int .i64 x2.To]) sz46 rfl rfl rfl rfl (by simp [Value.oneCell', Value.cells, st, pt, el]) rfl (Nat.le_of_ble_eq_true rfl) ?_
      refine L.nil (E.thenN (W.seq (W.region (L.cutJ 9 (fun gs D => ∃ (gb2 : Bool), gs = [(0, .int .i64 a0), (6, pt b3 0), (16, u1), (17, .int .i64 (a1.length : Int)), (18, .int .i64 gx1), (30, .bool gb2)] ∧ D = Cls w [] [.obj b3 [.int .i64 x2.From, .int .i64 x2.To] 46] ∧ m9_graph_Check_K4 x2 a0 gx1 go1 gb2 = some r) ?_ ?_))))
      ·
       refine L.y rfl (Y.fieldP fd46_0 rfl) ?_
       refine L.y rfl (Y.loadP (i := 0) ag3 rfl rfl rfl) ?_
       refine L.ite h rfl (Y.lss rfl rfl) (fun c7 h => ?_) (fun c7 h => ?_)
       ·
        refine L.y rfl (Y.move rfl) ?_
        refine L.pass rfl rfl (by nofun) ?_
        refine L.pass rfl rfl (by nofun) ?_
        refine L.pass rfl rfl (by nofun) ?_
        refine L.pass rfl rfl (by nofun) ?_
        refine L.y rfl (Y.pickT rfl rfl) ?_
        exact L.nil (E.joinJ ⟨true, rfl, rfl, h⟩ ⟨rfl, rfl, rfl, rfl, rfl, rfl, trivial⟩ (fun _ hw => hw))
       ·
        refine L.y rfl (Y.move rfl) ?_
        refine L.take rfl (L.y rfl (Y.fieldP fd46_0 rfl) ?_)
        refine L.take rfl (L.y rfl (Y.loadP (i := 0) ag3 rfl rfl rfl) ?_)
        refine L.take rfl (L.y rfl (Y.move rfl) ?_)
        refine L.take rfl (L.ite h rfl (Y.geq rfl rfl) (fun c8 h => ?_) (fun c8 h => ?_))
        ·
         refine L.y rfl (Y.pickF rfl rfl) ?_
         exact L.nil (E.joinJ ⟨true, rfl, rfl, h⟩ ⟨rfl, rfl, rfl, rfl, rfl, rfl, trivial⟩ (fun _ hw => hw))
        ·
         refine L.y rfl (Y.pickF rfl rfl) ?_
         exact L.nil (E.joinJ ⟨false, rfl, rfl, h⟩ ⟨rfl, rfl, rfl, rfl, rfl, rfl, trivial⟩ (fun _ hw => hw))
      ·
       rintro _ _ ⟨gb2, rfl, rfl, h⟩
       rw [m9_graph_Check_K4] at h
       rcases gb2 with _ | _
       ·
        replace h := iteF h
        refine L.y rfl (Y.move rfl) ?_
        refine L.take rfl (L.y rfl (Y.fieldP fd46_1 rfl) ?_)
        refine L.take rfl (L.y rfl (Y.loadP (i := 0) ag3 rfl rfl rfl) ?_)
        refine L.take rfl (L.ite h rfl (Y.lss rfl rfl) (fun c4 h => ?_) (fun c4 h => ?_))
        ·
         refine L.y rfl (Y.pickF rfl rfl) ?_
         refine L.y rfl (Y.move rfl) ?_
         refine L.pass rfl rfl (by nofun) ?_
         refine L.pass rfl rfl (by nofun) ?_
         refine L.pass rfl rfl (by nofun) ?_
         refine L.pass rfl rfl (by nofun) ?_
         refine L.y rfl (Y.pickT rfl rfl) ?_
         refine L.nil (E.thenN (W.condT rfl ?_))
         refine W.seq (W.region (L.y rfl (Y.assign rfl) ?_))
         refine L.nil (E.thenN (W.ret (E.blockR (E.thenR (E.KLR (E.blockR (E.KSR (E.ret1 rfl rfl (fun w1 hw => ?_)))))))))
         obtain rfl := Option.some.inj h
         exact ⟨_, _, rfl, ⟨rfl, rfl⟩, hw.sel [] (by decide) rfl⟩
        ·
         refine L.y rfl (Y.pickF rfl rfl) ?_
         refine L.y rfl (Y.move rfl) ?_
         refine L.take rfl (L.y rfl (Y.fieldP fd46_1 rfl) ?_)
         refine L.take rfl (L.y rfl (Y.loadP (i := 0) ag3 rfl rfl rfl) ?_)
         refine L.take rfl (L.y rfl (Y.move rfl) ?_)
         refine L.take rfl (L.ite h rfl (Y.geq rfl rfl) (fun c5 h => ?_) (fun c5 h => ?_))
         ·
          refine L.y rfl (Y.pickF rfl rfl) ?_
          refine L.nil (E.thenN (W.condT rfl ?_))
          refine W.seq (W.region (L.y rfl (Y.assign rfl) ?_))
          refine L.nil (E.thenN (W.ret (E.blockR (E.thenR (E.KLR (E.blockR (E.KSR (E.ret1 rfl rfl (fun w1 hw => ?_)))))))))
          obtain rfl := Option.some.inj h
          exact ⟨_, _, rfl, ⟨rfl, rfl⟩, hw.sel [] (by decide) rfl⟩
         ·
          refine L.y rfl (Y.pickF rfl rfl) ?_
          refine L.nil (E.thenN (W.condF rfl ?_))
          refine W.skip (E.blockN (E.thenN (W.region (L.m (V := fun x6 => .int .i64 x6) h rfl (Y.addM rfl rfl) (fun x6 ex6 h => ?_)))))
          refine L.y rfl (Y.move rfl) ?_
          exact L.nil (E.againJ ⟨x6, rfl, rfl, by rw [hg1]; exact h⟩ (Nat.lt_succ_self _) ⟨rfl, rfl, rfl, rfl, trivial⟩ (fun _ hw => hw.sel [] (by decide) rfl))
       ·
        replace h := iteT h
        refine L.y rfl (Y.move rfl) ?_
        refine L.pass rfl rfl (by nofun) ?_
        refine L.pass rfl rfl (by nofun) ?_
        refine L.pass rfl rfl (by nofun) ?_
        refine L.y rfl (Y.pickT rfl rfl) ?_
        refine L.y rfl (Y.move rfl) ?_
        refine L.pass rfl rfl (by nofun) ?_
        refine L.pass rfl rfl (by nofun) ?_
        refine L.pass rfl rfl (by nofun) ?_
        refine L.pass rfl rfl (by nofun) ?_
        refine L.y rfl (Y.pickT rfl rfl) ?_
        refine L.nil (E.thenN (W.condT rfl ?_))
        refine W.seq (W.region (L.y rfl (Y.assign rfl) ?_))
        refine L.nil (E.thenN (W.ret (E.blockR (E.thenR (E.KLR (E.blockR (E.KSR (E.ret1 rfl rfl (fun w1 hw => ?_)))))))))
        obtain rfl := Option.some.inj h
        exact ⟨_, _, rfl, ⟨rfl, rfl⟩, hw.sel [] (by decide) rfl⟩
     ·
      refine L.nil (E.thenN (W.seq (W.condF rfl ?_)))
      exact W.exit (E.thenX (E.KLX (E.blockX (E.joinJ ⟨rfl, rfl, h⟩ trivial (fun _ hw => hw)))))
    ·
     rintro _ _ ⟨rfl, rfl, h⟩
     rw [m9_graph_Check_K3] at h
     refine W.seq (W.region (L.y rfl (Y.assign rfl) ?_))
     refine L.nil (E.thenN (W.ret (E.ret1 rfl rfl (fun w1 hw => ?_))))
     obtain rfl := Option.some.inj h
     exact ⟨_, _, rfl, ⟨rfl, rfl⟩, hw⟩
set_option maxRecDepth 100000 in
set_option maxHeartbeats 8000000 in
theorem w20_graph_next (a0 : Int) (a1 : (List TEdge)) (u1 : Value) (w : World) (r : (List (List Int))) (h : m20_graph_next a0 a1 = some r) (hA1 : At w u1 2 (a1.map TEdge.row)) : Does Try.prog 20 [.int .i64 a0, u1] w fun u m => ∃ v0 q0, u = v0 ∧ m = [.sl v0 25 1 (zr svRow q0 r), .ss (zs (svSd 3 1 I) q0 r)] := by
  rw [m20_graph_next] at h
  refine body (n := 51) Try.func20 rfl rfl rfl (Cls.refl w) ?_
  refine W.seq (W.region (L.y rfl (Y.assign rfl) ?_))
  refine L.nil (E.thenN (W.seq (W.region (L.y rfl (Y.move rfl) ?_))))
  obtain ⟨l1, el1, h⟩ := bind1S h
  refine L.makeZ (row := svRow) (sds := (svSd 3 1 I)) (nv := [nilV]) (z0 := ([] : (List Int))) el1 rfl Try.underlying28 eL25 ze25 rfl rfl rfl (gall1 rfl rfl gall0) ?_
  intro b2
  refine L.y rfl (Y.assign rfl) ?_
  refine L.nil (E.thenN (W.seqJ (fun gs D => ∃ (gl1 : (List (List Int))) (gq2 : Nat → List Value), gs = [(5, (sv b2 a0.toNat))] ∧ D = Cls w [] [.sl (sv b2 a0.toNat) 25 1 (zr svRow gq2 gl1), .ss (zs (svSd 3 1 I) gq2 gl1)] ∧ m20_graph_next_K1 gl1 = some r) ?_ ?_))
  ·
   refine W.seq (W.region (L.y rfl (Y.move rfl) ?_))
   refine L.y rfl (Y.lenM (g := TEdge.row) (l := a1) Try.underlying22 rfl (fun w' hw => hA1.cls0 hw)) ?_
   refine L.y rfl (Y.move rfl) ?_
   refine L.nil (E.thenN (W.block (W.loopJ (fun m gs D => ∃ (gl8 : (List (List Int))) (gq9 : Nat → List Value) (gx10 : Int), gs = [(5, (sv b2 a0.toNat)), (11, u1), (12, .int .i64 (a1.length : Int)), (13, .int .i64 gx10)] ∧ D = Cls w [] [.sl (sv b2 a0.toNat) 25 1 (zr svRow gq9 gl8), .ss (zs (svSd 3 1 I) gq9 gl8)] ∧ m20_graph_next_L2 a1 m gl8 gx10 = some r) ⟨l1, (fun _ => [nilV]), 0, rfl, rfl, h⟩ ⟨rfl, rfl, rfl, rfl, trivial⟩ (fun _ hw => hw) ?_)))
   rintro m _ _ ⟨gl8, gq9, gx10, rfl, rfl, h⟩
   rcases m with _ | m
   · rw [m20_graph_next_L2] at h; cases h
   rw [m20_graph_next_L2] at h
   generalize hg2 : m20_graph_next_L2 a1 m = go2 at h
   rw [m20_graph_next_L2B] at h
   refine W.seq (W.region (L.ite h rfl (Y.lss rfl rfl) (fun c14 h => ?_) (fun c14 h => ?_)))
   ·
    refine L.nil (E.thenN (W.seq (W.condT rfl ?_)))
    refine W.skip (E.thenN (W.seq (W.block (W.seq (W.region (L.m (V := fun _ => el u1 (gx10.toNat * 2)) h rfl (Y.indexM (g := TEdge.row) (l := a1) Try.underlying22 sz46 rfl rfl (fun w' hw => hA1.cls0 hw)) (fun x15 ex15 h => ?_)))))))
    refine L.y rfl (Y.loadEN (r := [.int .i64 x15.From, .int .i64 x15.To]) ag46 sz46 rfl (fun w' hw => hA1.cls0 hw) (idx_map ex15) rfl) ?_
    refine L.alloc rfl ze46 ?_
    intro b16
    refine L.store (i := 0) (vs := [.int .i64 x15.From, .int .i64 x15.To]) sz46 rfl rfl rfl rfl (by simp [Value.oneCell', Value.cells, st, pt, el]) rfl (Nat.le_of_ble_eq_true rfl) ?_
    refine L.nil (E.thenN (W.drawn2 (k := 14) (stC [[11, 13], [13]] [Cls w [] [.obj b16 [.int .i64 x15.From, .int .i64 x15.To] 46, .sl (sv b2 a0.toNat) 25 1 (zr svRow gq9 gl8), .ss (zs (svSd 3 1 I) gq9 gl8)], Cls w [] [.obj b16 [.int .i64 x15.From, .int .i64 x15.To] 46, .sl (sv b2 a0.toNat) 25 1 (zr svRow gq9 gl8)]] (Cls w [] [.obj b16 [.int .i64 x15.From, .int .i64 x15.To] 46])) rfl mixed (fun _ hw => hw.drew) (Sc.now (by kernel_rfl) (fun _ hw => hw)) ?_))
    refine V2.y (i := 0) (Nx2.of (Z := Cls w [] [.obj b16 [.int .i64 x15.From, .int .i64 x15.To] 46]) [] (by kernel_rfl) rfl (Zc.on (fun _ hw => hw.sel [0] (by decide) rfl) (Zc.on (fun _ hw => hw.sel [0] (by decide) rfl) (Zc.fin (fun _ hw => hw))))) rfl rfl rfl (Y.move rfl) ?_
    refine V2.y (i := 1) (Nx2.of (Z := Cls w [] [.obj b16 [.int .i64 x15.From, .int .i64 x15.To] 46]) [] (by kernel_rfl) rfl (Zc.on (fun _ hw => hw.sel [0] (by decide) rfl) (Zc.on (fun _ hw => hw.sel [0] (by decide) rfl) (Zc.fin (fun _ hw => hw))))) rfl rfl rfl (Y.fieldP fd46_0 rfl) ?_
    refine V2.y (i := 2) (Nx2.of (Z := Cls w [] [.obj b16 [.int .i64 x15.From, .int .i64 x15.To] 46]) [] (by kernel_rfl) rfl (Zc.on (fun _ hw => hw.sel [0] (by decide) rfl) (Zc.on (fun _ hw => hw.sel [0] (by decide) rfl) (Zc.fin (fun _ hw => hw))))) rfl rfl rfl (Y.loadP (i := 0) ag3 rfl rfl rfl) ?_
    refine V2.y (i := 3) (Nx2.of (Z := Cls w [] [.obj b16 [.int .i64 x15.From, .int .i64 x15.To] 46]) [] (by kernel_rfl) rfl (Zc.on (fun _ hw => hw.sel [0] (by decide) rfl) (Zc.on (fun _ hw => hw.sel [0] (by decide) rfl) (Zc.fin (fun _ hw => hw))))) rfl rfl rfl (Y.move rfl) ?_
    refine V2.y (i := 4) (Nx2.of (Z := Cls w [] [.obj b16 [.int .i64 x15.From, .int .i64 x15.To] 46]) [] (by kernel_rfl) rfl (Zc.on (fun _ hw => hw.sel [0] (by decide) rfl) (Zc.on (fun _ hw => hw.sel [0] (by decide) rfl) (Zc.fin (fun _ hw => hw))))) rfl rfl rfl (Y.fieldP fd46_0 rfl) ?_
    refine V2.y (i := 5) (Nx2.of (Z := Cls w [] [.obj b16 [.int .i64 x15.From, .int .i64 x15.To] 46]) [] (by kernel_rfl) rfl (Zc.on (fun _ hw => hw.sel [0] (by decide) rfl) (Zc.on (fun _ hw => hw.sel [0] (by decide) rfl) (Zc.fin (fun _ hw => hw))))) rfl rfl rfl (Y.loadP (i := 0) ag3 rfl rfl rfl) ?_
    refine V2.m (i := 6) (V' := fun _ => el (sv b2 a0.toNat) (x15.From.toNat * 1)) h (Nx2.of (Z := Cls w [] [.obj b16 [.int .i64 x15.From, .int .i64 x15.To] 46, .sl (sv b2 a0.toNat) 25 1 (zr svRow gq9 gl8)]) [13] (by kernel_rfl) rfl (Zc.on (fun _ hw => hw.sel [0, 1] (by decide) rfl) (Zc.at1 (fun _ hw => hw)))) rfl rfl rfl (Y.indexMZ (row := svRow) (vs := gq9) (l := gl8) Try.underlying28 sz25 rfl rfl (fun w hw => As.at_ (hw.get (i := 1) rfl))) (fun x35 ex35 h => ?_)
    refine V2.y (i := 7) (Nx2.of (Z := Cls w [] [.obj b16 [.int .i64 x15.From, .int .i64 x15.To] 46, .sl (sv b2 a0.toNat) 25 1 (zr svRow gq9 gl8)]) [13] (by kernel_rfl) rfl (Zc.on (fun _ hw => hw.sel [0, 1] (by decide) rfl) (Zc.at1 (fun _ hw => hw)))) rfl rfl rfl (Y.loadE1 (u := gv (gq9 x15.From.toNat) 0) ag25 rfl (fun w hw => As.at_ (hw.get (i := 1) rfl)) (zr_idx (vs := gq9) ex35)) ?_
    refine V2.y (i := 8) (Nx2.of (Z := Cls w [] [.obj b16 [.int .i64 x15.From, .int .i64 x15.To] 46]) [] (by kernel_rfl) rfl (Zc.on (fun _ hw => hw.sel [0] (by decide) rfl) (Zc.on (fun _ hw => hw.sel [0] (by decide) rfl) (Zc.fin (fun _ hw => hw))))) rfl rfl rfl (Y.fieldP fd46_1 rfl) ?_
    refine V2.y (i := 9) (Nx2.of (Z := Cls w [] [.obj b16 [.int .i64 x15.From, .int .i64 x15.To] 46]) [] (by kernel_rfl) rfl (Zc.on (fun _ hw => hw.sel [0] (by decide) rfl) (Zc.on (fun _ hw => hw.sel [0] (by decide) rfl) (Zc.fin (fun _ hw => hw))))) rfl rfl rfl (Y.loadP (i := 0) ag3 rfl rfl rfl) ?_
    refine V2.eff (i := 10) (by kernel_rfl) rfl ?_
    refine L.litOne rfl Try.underlying25 eL3 rfl rfl ?_
    intro b36
    refine L.nil (E.toV2 (stC [[11, 13], [13]] [Cls w [] [.sl (sv b36 1) 3 1 (([x15.To]).map I), .obj b16 [.int .i64 x15.From, .int .i64 x15.To] 46, .sl (sv b2 a0.toNat) 25 1 (zr svRow gq9 gl8), .ss (zs (svSd 3 1 I) gq9 gl8)], Cls w [] [.sl (sv b36 1) 3 1 (([x15.To]).map I), .obj b16 [.int .i64 x15.From, .int .i64 x15.To] 46, .sl (sv b2 a0.toNat) 25 1 (zr svRow gq9 gl8)]] (Cls w [] [.sl (sv b36 1) 3 1 (([x15.To]).map I), .obj b16 [.int .i64 x15.From, .int .i64 x15.To] 46])) 10 (by kernel_rfl) (Sc.stay (fun _ hw => hw.sel [1, 2, 3] (by decide) rfl) (Sc.stay (fun _ hw => hw.sel [1, 2] (by decide) rfl) (Sc.stayD (fun _ hw => hw.sel [1] (by decide) rfl)))) (Sc.now (by kernel_rfl) (fun _ hw => hw)) ?_)
    refine V2.eff (i := 11) (by kernel_rfl) rfl ?_
    refine L.ssOut (sds := (svSd 3 1 I)) (vs := gq9) (s := 3) (j := 0) (c := 1) rfl (fun _ _ => rfl) ex35 rfl ?_
    refine L.appM (i := 0) (g := I) (l := x35) (more := [x15.To]) h rfl Try.underlying25 eL3 rfl rfl rfl (fun w hw => As.at_ (hw.get (i := 1) rfl)) (plain_ints _) rfl ?_
    intro v37 l38 el38 h
    refine L.nil (E.toV2 (stC [[13]] [Cls w [] [.sl v37 3 1 (l38.map I), .sl (sv b36 1) 3 1 (([x15.To]).map I), .obj b16 [.int .i64 x15.From, .int .i64 x15.To] 46, .sl (sv b2 a0.toNat) 25 1 (zr svRow gq9 gl8)]] (Cls w [] [.sl (sv b36 1) 3 1 (([x15.To]).map I), .obj b16 [.int .i64 x15.From, .int .i64 x15.To] 46])) 11 (by kernel_rfl) (Sc.past rfl (Sc.stay (fun _ hw => hw.sel [1, 2, 3] (by decide) rfl) (Sc.stayD (fun _ hw => hw)))) (Sc.now (by kernel_rfl) (fun _ hw => hw.sel [0, 1, 2, 3] (by decide) rfl)) ?_)
    refine V2.m (i := 12) (V' := fun _ => el (sv b2 a0.toNat) (x15.From.toNat * 1)) h (Nx2.of (Z := Cls w [] [.sl v37 3 1 (l38.map I), .sl (sv b36 1) 3 1 (([x15.To]).map I), .obj b16 [.int .i64 x15.From, .int .i64 x15.To] 46, .sl (sv b2 a0.toNat) 25 1 (zr svRow gq9 gl8)]) [13] (by kernel_rfl) rfl (Zc.at1 (fun _ hw => hw))) rfl rfl rfl (Y.indexMZ (row := svRow) (vs := gq9) (l := gl8) Try.underlying28 sz25 rfl rfl (fun w hw => As.at_ (hw.get (i := 3) rfl))) (fun x39 ex39 h => ?_)
    refine V2.eff (i := 13) (by kernel_rfl) rfl ?_
    refine L.storeSlZS (row := svRow) (sds := (svSd 3 1 I)) (vs := gq9) (q := 3) (p := 0) (s := 4) (c := 1) (jj := 0) (u1 := l38) (v1 := [v37]) (j := 0) h sz25 rfl rfl rfl rfl rfl rfl (.inr rfl) (fun _ _ => rfl) (fun _ _ => rfl) ex39 rfl rfl rfl rfl (by decide) ?_
    intro l40 q41 el40 h
    refine L.nil (E.toV2 (stC [] [] (Cls w [] [.sl (sv b36 1) 3 1 (([x15.To]).map I), .obj b16 [.int .i64 x15.From, .int .i64 x15.To] 46])) 13 (by kernel_rfl) (Sc.past rfl (Sc.stayD (fun _ hw => hw))) (Sc.atD (fun _ hw => hw.sel [0, 1] (by decide) rfl)) ?_)
    refine V2.done (by kernel_rfl) ?_
    refine E.blockN (E.thenN (W.region (L.m (V := fun x42 => .int .i64 x42) h rfl (Y.addM rfl rfl) (fun x42 ex42 h => ?_))))
    refine L.y rfl (Y.move rfl) ?_
    exact L.nil (E.againJ ⟨l40, q41, x42, rfl, rfl, by rw [hg2]; exact h⟩ (Nat.lt_succ_self _) ⟨rfl, rfl, rfl, rfl, trivial⟩ (fun _ hw => hw.sel [2, 3] (by decide) rfl))
   ·
    refine L.nil (E.thenN (W.seq (W.condF rfl ?_)))
    exact W.exit (E.thenX (E.KLX (E.blockX (E.joinJ ⟨gl8, gq9, rfl, rfl, h⟩ ⟨rfl, trivial⟩ (fun _ hw => hw)))))
  ·
   rintro _ _ ⟨gl1, gq2, rfl, rfl, h⟩
   rw [m20_graph_next_K1] at h
   refine W.seqJ (fun gs D => ∃ (gl3 : (List (List Int))) (gq4 : Nat → List Value), gs = [(5, (sv b2 a0.toNat))] ∧ D = Cls w [] [.sl (sv b2 a0.toNat) 25 1 (zr svRow gq4 gl3), .ss (zs (svSd 3 1 I) gq4 gl3)] ∧ m20_graph_next_K2 gl3 = some r) ?_ ?_
   ·
    refine W.seq (W.region (L.y rfl (Y.move rfl) ?_))
    refine L.y rfl (Y.lenMZ (row := svRow) (vs := gq2) (l := gl1) Try.underlying28 rfl (fun w hw => As.at_ (hw.get (i := 0) rfl))) ?_
    refine L.y rfl (Y.move rfl) ?_
    refine L.nil (E.thenN (W.block (W.loopJ (fun m gs D => ∃ (gl5 : (List (List Int))) (gq6 : Nat → List Value) (gx7 : Int), gs = [(5, (sv b2 a0.toNat)), (32, .int .i64 (gl1.length : Int)), (33, .int .i64 gx7)] ∧ D = Cls w [] [.sl (sv b2 a0.toNat) 25 1 (zr svRow gq6 gl5), .ss (zs (svSd 3 1 I) gq6 gl5)] ∧ m20_graph_next_L1 gl1 m gl5 gx7 = some r) ⟨gl1, gq2, 0, rfl, rfl, h⟩ ⟨rfl, rfl, rfl, trivial⟩ (fun _ hw => hw) ?_)))
    rintro m _ _ ⟨gl5, gq6, gx7, rfl, rfl, h⟩
    rcases m with _ | m
    · rw [m20_graph_next_L1] at h; cases h
    rw [m20_graph_next_L1] at h
    generalize hg1 : m20_graph_next_L1 gl1 m = go1 at h
    rw [m20_graph_next_L1B] at h
    refine W.seq (W.region (L.ite h rfl (Y.lss rfl rfl) (fun c3 h => ?_) (fun c3 h => ?_)))
    ·
     refine L.nil (E.thenN (W.seq (W.condT rfl ?_)))
     refine W.skip (E.thenN (W.seq (W.block (W.seq (W.region (L.y rfl (Y.move rfl) ?_))))))
     refine L.y rfl (Y.assign rfl) ?_
     refine L.nil (E.thenN (W.seq (W.region (L.y rfl (Y.move rfl) ?_))))
     refine L.y rfl (Y.move rfl) ?_
     refine L.m (V := fun _ => el (sv b2 a0.toNat) (gx7.toNat * 1)) h rfl (Y.indexMZ (row := svRow) (vs := gq6) (l := gl5) Try.underlying28 sz25 rfl rfl (fun w hw => As.at_ (hw.get (i := 0) rfl))) (fun x4 ex4 h => ?_)
     refine L.y rfl (Y.loadE1 (u := gv (gq6 gx7.toNat) 0) ag25 rfl (fun w hw => As.at_ (hw.get (i := 0) rfl)) (zr_idx (vs := gq6) ex4)) ?_
     refine L.ssOut (sds := (svSd 3 1 I)) (vs := gq6) (s := 1) (j := 0) (c := 1) rfl (fun _ _ => rfl) ex4 rfl ?_
     refine L.sortMD (i := 0) (l := x4) h wSort rfl en31 rfl rfl ?_
     intro l5 el5 h
     refine L.ssBack (row := svRow) (sds := (svSd 3 1 I)) (vs := gq6) (p := 0) (s := 2) (q := 1) (c := 1) (jj := 0) (u1 := l5) (fun z => .sl (sv b2 a0.toNat) 25 1 z) h rfl rfl rfl (fun _ _ => rfl) ex4 rfl rfl rfl ?_
     intro l6 el6 h
     refine L.nil (E.thenN (W.region (L.y rfl (Y.move rfl) ?_)))
     refine L.y rfl (Y.move rfl) ?_
     refine L.y rfl (Y.move rfl) ?_
     refine L.y rfl (Y.move rfl) ?_
     refine L.m (V := fun _ => el (sv b2 a0.toNat) (gx7.toNat * 1)) h rfl (Y.indexMZ (row := svRow) (vs := gq6) (l := l6) Try.underlying28 sz25 rfl rfl (fun w hw => As.at_ (hw.get (i := 0) rfl))) (fun x7 ex7 h => ?_)
     refine L.y rfl (Y.loadE1 (u := gv (gq6 gx7.toNat) 0) ag25 rfl (fun w hw => As.at_ (hw.get (i := 0) rfl)) (zr_idx (vs := gq6) ex7)) ?_
     refine L.ssOut (sds := (svSd 3 1 I)) (vs := gq6) (s := 1) (j := 0) (c := 1) rfl (fun _ _ => rfl) ex7 rfl ?_
     refine L.compactMD (i := 0) (l := x7) h wCompact rfl en34 rfl rfl ?_
     intro v9 l8 el8 h
     refine L.m (V := fun _ => el (sv b2 a0.toNat) (gx7.toNat * 1)) h rfl (Y.indexMZ (row := svRow) (vs := gq6) (l := l6) Try.underlying28 sz25 rfl rfl (fun w hw => As.at_ (hw.get (i := 1) rfl))) (fun x10 ex10 h => ?_)
     refine L.storeSlZS (row := svRow) (sds := (svSd 3 1 I)) (vs := gq6) (q := 1) (p := 0) (s := 2) (c := 1) (jj := 0) (u1 := l8) (v1 := [v9]) (j := 0) h sz25 rfl rfl rfl rfl rfl rfl (.inr rfl) (fun _ _ => rfl) (fun _ _ => rfl) ex10 rfl rfl rfl rfl (by decide) ?_
     intro l11 q12 el11 h
     refine L.nil (E.blockN (E.thenN (W.region (L.m (V := fun x13 => .int .i64 x13) h rfl (Y.addM rfl rfl) (fun x13 ex13 h => ?_)))))
     refine L.y rfl (Y.move rfl) ?_
     exact L.nil (E.againJ ⟨l11, q12, x13, rfl, rfl, by rw [hg1]; exact h⟩ (Nat.lt_succ_self _) ⟨rfl, rfl, rfl, trivial⟩ (fun _ hw => hw))
    ·
     refine L.nil (E.thenN (W.seq (W.condF rfl ?_)))
     exact W.exit (E.thenX (E.KLX (E.blockX (E.joinJ ⟨gl5, gq6, rfl, rfl, h⟩ ⟨rfl, trivial⟩ (fun _ hw => hw)))))
   ·
    rintro _ _ ⟨gl3, gq4, rfl, rfl, h⟩
    rw [m20_graph_next_K2] at h
    refine W.seq (W.region (L.y rfl (Y.move rfl) ?_))
    refine L.y rfl (Y.assign rfl) ?_
    refine L.nil (E.thenN (W.ret (E.ret1 rfl rfl (fun w1 hw => ?_))))
    obtain rfl := Option.some.inj h
    exact ⟨_, _, rfl, ⟨_, _, rfl, rfl⟩, hw⟩
set_option maxRecDepth 100000 in
set_option maxHeartbeats 8000000 in
theorem w21_slices_Index_int (a0 : (List Int)) (a1 : Int) (u0 : Value) (w : World) (r : Int) (h : m21_slices_Index_int a0 a1 = some r) (hA0 : At w u0 1 (a0.map I)) : Does Try.prog 21 [u0, .int .i64 a1] w fun u m => u = .int .i64 r ∧ m = [] := by
  rw [m21_slices_Index_int] at h
  refine body (n := 19) Try.func21 rfl rfl rfl (Cls.refl w) ?_
  refine W.seq (W.region (L.y rfl (Y.assign rfl) ?_))
  refine L.nil (E.thenN (W.seqJ (fun gs D => gs = [] ∧ D = Cls w [] [] ∧ m21_slices_Index_int_K1 = some r) ?_ ?_))
  ·
   refine W.seq (W.region (L.y rfl (Y.move rfl) ?_))
   refine L.y rfl (Y.lenM (g := I) (l := a0) Try.underlying25 rfl (fun w' hw => hA0.cls0 hw)) ?_
   refine L.y rfl (Y.move rfl) ?_
   refine L.nil (E.thenN (W.block (W.loopJ (fun m gs D => ∃ (gx1 : Int), gs = [(0, u0), (1, .int .i64 a1), (7, .int .i64 (a0.length : Int)), (8, .int .i64 gx1)] ∧ D = Cls w [] [] ∧ m21_slices_Index_int_L1 a0 a1 m gx1 = some r) ⟨0, rfl, rfl, h⟩ ⟨rfl, rfl, rfl, rfl, trivial⟩ (fun _ hw => hw) ?_)))
   rintro m _ _ ⟨gx1, rfl, rfl, h⟩
   rcases m with _ | m
   · rw [m21_slices_Index_int_L1] at h; cases h
   rw [m21_slices_Index_int_L1] at h
   generalize hg1 : m21_slices_Index_int_L1 a0 a1 m = go1 at h
   rw [m21_slices_Index_int_L1B] at h
   refine W.seq (W.region (L.ite h rfl (Y.lss rfl rfl) (fun c1 h => ?_) (fun c1 h => ?_)))
   ·
    refine L.nil (E.thenN (W.seq (W.condT rfl ?_)))
    refine W.skip (E.thenN (W.seq (W.block (W.seq (W.region (L.y rfl (Y.move rfl) ?_))))))
    refine L.y rfl (Y.assign rfl) ?_
    refine L.nil (E.thenN (W.seq (W.region (L.y rfl (Y.move rfl) ?_))))
    refine L.y rfl (Y.move rfl) ?_
    refine L.y rfl (Y.move rfl) ?_
    refine L.m (V := fun _ => el u0 (gx1.toNat * 1)) h rfl (Y.indexM (g := I) (l := a0) Try.underlying25 sz3 rfl rfl (fun w' hw => hA0.cls0 hw)) (fun x2 ex2 h => ?_)
    refine L.y rfl (Y.loadE1 (u := .int .i64 x2) ag3 rfl (fun w' hw => hA0.cls0 hw) (idx_map ex2)) ?_
    refine L.ite h rfl (Y.eql rfl rfl) (fun c3 h => ?_) (fun c3 h => ?_)
    ·
     refine L.nil (E.thenN (W.condT rfl ?_))
     refine W.seq (W.region (L.y rfl (Y.move rfl) ?_))
     refine L.y rfl (Y.assign rfl) ?_
     refine L.nil (E.thenN (W.ret (E.blockR (E.thenR (E.KLR (E.blockR (E.KSR (E.ret1 rfl rfl (fun w1 hw => ?_)))))))))
     obtain rfl := Option.some.inj h
     exact ⟨_, _, rfl, ⟨rfl, rfl⟩, hw⟩
    ·
     refine L.nil (E.thenN (W.condF rfl ?_))
     refine W.skip (E.blockN (E.thenN (W.region (L.m (V := fun x4 => .int .i64 x4) h rfl (Y.addM rfl rfl) (fun x4 ex4 h => ?_)))))
     refine L.y rfl (Y.move rfl) ?_
     exact L.nil (E.againJ ⟨x4, rfl, rfl, by rw [hg1]; exact h⟩ (Nat.lt_succ_self _) ⟨rfl, rfl, rfl, rfl, trivial⟩ (fun _ hw => hw))
   ·
    refine L.nil (E.thenN (W.seq (W.condF rfl ?_)))
    exact W.exit (E.thenX (E.KLX (E.blockX (E.joinJ ⟨rfl, rfl, h⟩ trivial (fun _ hw => hw)))))
  ·
   rintro _ _ ⟨rfl, rfl, h⟩
   rw [m21_slices_Index_int_K1] at h
   refine W.seq (W.region (L.y rfl (Y.assign rfl) ?_))
   refine L.nil (E.thenN (W.ret (E.ret1 rfl rfl (fun w1 hw => ?_))))
   obtain rfl := Option.some.inj h
   exact ⟨_, _, rfl, ⟨rfl, rfl⟩, hw⟩
set_option maxRecDepth 100000 in
set_option maxHeartbeats 8000000 in
theorem w6_graph_Order (a0 : Int) (a1 : (List TEdge)) (u1 : Value) (w : World) (r : ((List Int) × Int)) (h : m6_graph_Order a0 a1 = some r) (hA1 : At w u1 2 (a1.map TEdge.row)) : Does Try.prog 6 [.int .i64 a0, u1] w fun u m => ∃ v0, u = .tuple #[v0, .int .i64 r.2] ∧ m = [.sl v0 3 1 (r.1.map I)] := by
  rw [m6_graph_Order] at h
  refine body (n := 80) Try.func6 rfl rfl rfl (Cls.refl w) ?_
  refine W.seq (W.region (L.y rfl (Y.assign rfl) ?_))
  refine L.y rfl (Y.assign rfl) ?_
  refine L.nil (E.thenN (W.seqJ (fun gs D => gs = [(0, .int .i64 a0), (1, u1)] ∧ D = Cls w [] [] ∧ m6_graph_Order_K1 a0 a1 = some r) ?_ ?_))
  ·
   refine W.seq (W.region (L.y rfl (Y.move rfl) ?_))
   refine L.y rfl (Y.move rfl) ?_
   obtain ⟨x34, e35, h⟩ := bind1S h
   refine L.y rfl (Y.does en9 rfl (fun w' hw => (w9_graph_Check a0 a1 u1 w' _ e35 (hA1.cls0 hw)).mono (fun _ _ h => h.1))) ?_
   refine L.y rfl (Y.assign rfl) ?_
   refine L.nil (E.thenN (W.seq (W.region (L.y rfl (Y.move rfl) ?_))))
   refine L.ite h rfl (Y.neq rfl rfl) (fun c36 h => ?_) (fun c36 h => ?_)
   ·
    refine L.nil (E.thenN (W.condT rfl ?_))
    refine W.seq (W.region (L.y rfl (Y.move rfl) ?_))
    refine L.y rfl (Y.assign rfl) ?_
    refine L.y rfl (Y.assign rfl) ?_
    refine L.nil (E.thenN (W.ret (E.KSR (E.ret2 rfl rfl rfl (fun w1 hw => ?_)))))
    obtain rfl := Option.some.inj h
    exact ⟨_, _, rfl, ⟨_, rfl, rfl⟩, (hw.nilSl 3 1)⟩
   ·
    refine L.nil (E.thenN (W.condF rfl ?_))
    exact W.skip (E.joinJ ⟨rfl, rfl, h⟩ ⟨rfl, rfl, trivial⟩ (fun _ hw => hw))
  ·
   rintro _ _ ⟨rfl, rfl, h⟩
   rw [m6_graph_Order_K1] at h
   refine W.seq (W.region (L.y rfl (Y.move rfl) ?_))
   refine L.y rfl (Y.move rfl) ?_
   obtain ⟨l1, e4, h⟩ := bind1S h
   refine L.does rfl en20 rfl (fun w' hw => w20_graph_next a0 a1 u1 w' _ e4 (hA1.cls0 hw)) ?_
   rintro v2 _ ⟨_, q3, rfl, rfl⟩
   refine L.y rfl (Y.assign rfl) ?_
   refine L.nil (E.thenN (W.seq (W.region (L.y rfl (Y.move rfl) ?_))))
   obtain ⟨l5, el5, h⟩ := bind1S h
   refine L.makeE (row := I) (z0 := 0) el5 rfl Try.underlying25 eL3 ze3 rfl rfl rfl ?_
   intro b6
   refine L.y rfl (Y.assign rfl) ?_
   refine L.nil (E.thenN (W.seqJ (fun gs D => ∃ (gl1 : (List Int)), gs = [(0, .int .i64 a0), (7, v2), (8, (sv b6 a0.toNat))] ∧ D = Cls w [] [.sl v2 25 1 (zr svRow q3 l1), .ss (zs (svSd 3 1 I) q3 l1), .sl (sv b6 a0.toNat) 3 1 (gl1.map I)] ∧ m6_graph_Order_K2 a0 l1 gl1 = some r) ?_ ?_))
   ·
    refine W.seq (W.region (L.y rfl (Y.move rfl) ?_))
    refine L.y rfl (Y.lenMZ (row := svRow) (vs := q3) (l := l1) Try.underlying28 rfl (fun w hw => As.at_ (hw.get (i := 1) rfl))) ?_
    refine L.y rfl (Y.move rfl) ?_
    refine L.nil (E.thenN (W.block (W.loopJ (fun m gs D => ∃ (gl10 : (List Int)) (gx11 : Int), gs = [(0, .int .i64 a0), (7, v2), (8, (sv b6 a0.toNat)), (28, v2), (29, .int .i64 (l1.length : Int)), (30, .int .i64 gx11)] ∧ D = Cls w [] [.sl v2 25 1 (zr svRow q3 l1), .ss (zs (svSd 3 1 I) q3 l1), .sl (sv b6 a0.toNat) 3 1 (gl10.map I)] ∧ m6_graph_Order_L3 l1 a0 m gl10 gx11 = some r) ⟨l5, 0, rfl, rfl, h⟩ ⟨rfl, rfl, rfl, rfl, rfl, rfl, trivial⟩ (fun _ hw => hw.sel [1, 2, 0] (by decide) rfl) ?_)))
    rintro m _ _ ⟨gl10, gx11, rfl, rfl, h⟩
    rcases m with _ | m
    · rw [m6_graph_Order_L3] at h; cases h
    rw [m6_graph_Order_L3] at h
    generalize hg3 : m6_graph_Order_L3 l1 a0 m = go3 at h
    rw [m6_graph_Order_L3B] at h
    refine W.seq (W.region (L.ite h rfl (Y.lss rfl rfl) (fun c24 h => ?_) (fun c24 h => ?_)))
    ·
     refine L.nil (E.thenN (W.seq (W.condT rfl ?_)))
     refine W.skip (E.thenN (W.seqJ (fun gs D => ∃ (gl12 : (List Int)), gs = [(0, .int .i64 a0), (7, v2), (8, (sv b6 a0.toNat)), (28, v2), (29, .int .i64 (l1.length : Int)), (30, .int .i64 gx11)] ∧ D = Cls w [] [.sl v2 25 1 (zr svRow q3 l1), .ss (zs (svSd 3 1 I) q3 l1), .sl (sv b6 a0.toNat) 3 1 (gl12.map I)] ∧ m6_graph_Order_K7 gx11 go3 gl12 = some r) ?_ ?_))
     ·
      refine W.block (W.seq (W.region (L.m (V := fun _ => el v2 (gx11.toNat * 1)) h rfl (Y.indexMZ (row := svRow) (vs := q3) (l := l1) Try.underlying28 sz25 rfl rfl (fun w hw => As.at_ (hw.get (i := 0) rfl))) (fun x26 ex26 h => ?_))))
      refine L.y rfl (Y.loadE1 (u := gv (q3 gx11.toNat) 0) ag25 rfl (fun w hw => As.at_ (hw.get (i := 0) rfl)) (zr_idx (vs := q3) ex26)) ?_
      refine L.y rfl (Y.assign rfl) ?_
      refine L.nil (E.thenN (W.seq (W.region (L.y rfl (Y.move rfl) ?_))))
      refine L.y rfl (Y.lenM (g := I) (l := x26) Try.underlying25 rfl (fun w hw => As.atZ (sds := (svSd 3 1 I)) (vs := q3) (j := 0) (c := 1) (hw.get (i := 1) rfl) (fun _ _ => rfl) ex26 rfl)) ?_
      refine L.y rfl (Y.move rfl) ?_
      refine L.nil (E.thenN (W.block (W.loopJ (fun m gs D => ∃ (gl13 : (List Int)) (gx14 : Int), gs = [(0, .int .i64 a0), (7, v2), (8, (sv b6 a0.toNat)), (28, v2), (29, .int .i64 (l1.length : Int)), (30, .int .i64 gx11), (34, gv (q3 gx11.toNat) 0), (35, .int .i64 (x26.length : Int)), (36, .int .i64 gx14)] ∧ D = Cls w [] [.sl v2 25 1 (zr svRow q3 l1), .ss (zs (svSd 3 1 I) q3 l1), .sl (sv b6 a0.toNat) 3 1 (gl13.map I)] ∧ m6_graph_Order_L4 x26 gx11 go3 m gl13 gx14 = some r) ⟨gl10, 0, rfl, rfl, h⟩ ⟨rfl, rfl, rfl, rfl, rfl, rfl, rfl, rfl, rfl, trivial⟩ (fun _ hw => hw) ?_)))
      rintro m _ _ ⟨gl13, gx14, rfl, rfl, h⟩
      rcases m with _ | m
      · rw [m6_graph_Order_L4] at h; cases h
      rw [m6_graph_Order_L4] at h
      generalize hg4 : m6_graph_Order_L4 x26 gx11 go3 m = go4 at h
      rw [m6_graph_Order_L4B] at h
      refine W.seq (W.region (L.ite h rfl (Y.lss rfl rfl) (fun c27 h => ?_) (fun c27 h => ?_)))
      ·
       refine L.nil (E.thenN (W.seq (W.condT rfl ?_)))
       refine W.skip (E.thenN (W.seq (W.block (W.seq (W.region (L.m (V := fun _ => el (gv (q3 gx11.toNat) 0) (gx14.toNat * 1)) h rfl (Y.indexM (g := I) (l := x26) Try.underlying25 sz3 rfl rfl (fun w hw => As.atZ (sds := (svSd 3 1 I)) (vs := q3) (j := 0) (c := 1) (hw.get (i := 1) rfl) (fun _ _ => rfl) ex26 rfl)) (fun x28 ex28 h => ?_)))))))
       refine L.y rfl (Y.loadE1 (u := .int .i64 x28) ag3 rfl (fun w hw => As.atZ (sds := (svSd 3 1 I)) (vs := q3) (j := 0) (c := 1) (hw.get (i := 1) rfl) (fun _ _ => rfl) ex26 rfl) (idx_map ex28)) ?_
       refine L.y rfl (Y.assign rfl) ?_
       refine L.nil (E.thenN (W.region (L.y rfl (Y.move rfl) ?_)))
       refine L.y rfl (Y.move rfl) ?_
       refine L.m (V := fun _ => el (sv b6 a0.toNat) (x28.toNat * 1)) h rfl (Y.indexM (g := I) (l := gl13) Try.underlying25 sz3 rfl rfl (fun w hw => As.at_ (hw.get (i := 2) rfl))) (fun x29 ex29 h => ?_)
       refine L.y rfl (Y.loadE1 (u := .int .i64 x29) ag3 rfl (fun w hw => As.at_ (hw.get (i := 2) rfl)) (idx_map ex29)) ?_
       refine L.m (V := fun x30 => .int .i64 x30) h rfl (Y.addM rfl rfl) (fun x30 ex30 h => ?_)
       refine L.m (V := fun _ => el (sv b6 a0.toNat) (x28.toNat * 1)) h rfl (Y.indexM (g := I) (l := gl13) Try.underlying25 sz3 rfl rfl (fun w hw => As.at_ (hw.get (i := 2) rfl))) (fun x31 ex31 h => ?_)
       refine L.storeSlM (q := 2) (row := I) (vs := [.int .i64 x30]) (j := 0) (u1 := x30) h sz3 rfl rfl rfl rfl rfl (all1 rfl all0) rfl ex31 rfl rfl ?_
       intro l32 el32 h
       refine L.nil (E.blockN (E.thenN (W.region (L.m (V := fun x33 => .int .i64 x33) h rfl (Y.addM rfl rfl) (fun x33 ex33 h => ?_)))))
       refine L.y rfl (Y.move rfl) ?_
       exact L.nil (E.againJ ⟨l32, x33, rfl, rfl, by rw [hg4]; exact h⟩ (Nat.lt_succ_self _) ⟨rfl, rfl, rfl, rfl, rfl, rfl, rfl, rfl, rfl, trivial⟩ (fun _ hw => hw))
      ·
       refine L.nil (E.thenN (W.seq (W.condF rfl ?_)))
       exact W.exit (E.thenX (E.KLX (E.blockX (E.blockN (E.joinJ ⟨gl13, rfl, rfl, h⟩ ⟨rfl, rfl, rfl, rfl, rfl, rfl, trivial⟩ (fun _ hw => hw))))))
     ·
      rintro _ _ ⟨gl12, rfl, rfl, h⟩
      rw [m6_graph_Order_K7] at h
      refine W.region (L.m (V := fun x25 => .int .i64 x25) h rfl (Y.addM rfl rfl) (fun x25 ex25 h => ?_))
      refine L.y rfl (Y.move rfl) ?_
      exact L.nil (E.againJ ⟨gl12, x25, rfl, rfl, by rw [hg3]; exact h⟩ (Nat.lt_succ_self _) ⟨rfl, rfl, rfl, rfl, rfl, rfl, trivial⟩ (fun _ hw => hw))
    ·
     refine L.nil (E.thenN (W.seq (W.condF rfl ?_)))
     exact W.exit (E.thenX (E.KLX (E.blockX (E.joinJ ⟨gl10, rfl, rfl, h⟩ ⟨rfl, rfl, rfl, trivial⟩ (fun _ hw => hw)))))
   ·
    rintro _ _ ⟨gl1, rfl, rfl, h⟩
    rw [m6_graph_Order_K2] at h
    refine W.seq (W.region (L.y rfl (Y.assign rfl) ?_))
    refine L.nil (E.thenN (W.seqJ (fun gs D => ∃ (gv2 : Value) (gl3 : (List Int)), gs = [(13, gv2)] ∧ D = Cls w [] [.sl gv2 3 1 (gl3.map I)] ∧ m6_graph_Order_K3 gl3 = some r) ?_ ?_))
    ·
     refine W.block (W.nilSl 3 1 ?_)
     refine W.loopJ (fun m gs D => ∃ (gl4 : (List Int)) (gv5 : Value) (gl6 : (List Int)), gs = [(0, .int .i64 a0), (7, v2), (8, (sv b6 a0.toNat)), (13, gv5)] ∧ D = Cls w [] [.sl v2 25 1 (zr svRow q3 l1), .ss (zs (svSd 3 1 I) q3 l1), .sl (sv b6 a0.toNat) 3 1 (gl4.map I), .sl gv5 3 1 (gl6.map I)] ∧ m6_graph_Order_L1 a0 l1 m gl4 gl6 = some r) ⟨gl1, .slice none 0 0, [], rfl, rfl, h⟩ ⟨rfl, rfl, rfl, rfl, trivial⟩ (fun _ hw => hw.sel [1, 2, 3, 0] (by decide) rfl) ?_
     rintro m _ _ ⟨gl4, gv5, gl6, rfl, rfl, h⟩
     rcases m with _ | m
     · rw [m6_graph_Order_L1] at h; cases h
     rw [m6_graph_Order_L1] at h
     generalize hg1 : m6_graph_Order_L1 a0 l1 m = go1 at h
     rw [m6_graph_Order_L1B] at h
     refine W.seqJ (fun gs D => gs = [(0, .int .i64 a0), (7, v2), (8, (sv b6 a0.toNat)), (13, gv5)] ∧ D = Cls w [] [.sl v2 25 1 (zr svRow q3 l1), .ss (zs (svSd 3 1 I) q3 l1), .sl (sv b6 a0.toNat) 3 1 (gl4.map I), .sl gv5 3 1 (gl6.map I)] ∧ m6_graph_Order_K4 gl4 l1 gl6 go1 = some r) ?_ ?_
     ·
      refine W.seq (W.region (L.y rfl (Y.move rfl) ?_))
      refine L.y rfl (Y.lenM (g := I) (l := gl6) Try.underlying25 rfl (fun w hw => As.at_ (hw.get (i := 3) rfl))) ?_
      refine L.y rfl (Y.move rfl) ?_
      refine L.ite h rfl (Y.lss rfl rfl) (fun c23 h => ?_) (fun c23 h => ?_)
      ·
       refine L.nil (E.thenN (W.condT rfl ?_))
       exact W.skip (E.joinJ ⟨rfl, rfl, h⟩ ⟨rfl, rfl, rfl, rfl, trivial⟩ (fun _ hw => hw))
      ·
       refine L.nil (E.thenN (W.condF rfl ?_))
       exact W.exit (E.KSX (E.KLX (E.blockX (E.joinJ ⟨gv5, gl6, rfl, rfl, h⟩ ⟨rfl, trivial⟩ (fun _ hw => hw.sel [3] (by decide) rfl)))))
     ·
      rintro _ _ ⟨rfl, rfl, h⟩
      rw [m6_graph_Order_K4] at h
      refine W.block (W.seq (W.region (L.y rfl (Y.move rfl) ?_)))
      obtain ⟨x7, e8, h⟩ := bind1S h
      refine L.y rfl (Y.does en21 rfl (fun w' hw => (w21_slices_Index_int gl4 0 (sv b6 a0.toNat) w' _ e8 (As.at_ (hw.get (i := 2) rfl))).mono (fun _ _ h => h.1))) ?_
      refine L.y rfl (Y.assign rfl) ?_
      refine L.nil (E.thenN (W.seqJ (fun gs D => gs = [(0, .int .i64 a0), (7, v2), (8, (sv b6 a0.toNat)), (13, gv5), (14, .int .i64 x7)] ∧ D = Cls w [] [.sl v2 25 1 (zr svRow q3 l1), .ss (zs (svSd 3 1 I) q3 l1), .sl (sv b6 a0.toNat) 3 1 (gl4.map I), .sl gv5 3 1 (gl6.map I)] ∧ m6_graph_Order_K5 gl4 x7 l1 gl6 go1 = some r) ?_ ?_))
      ·
       refine W.seq (W.region (L.y rfl (Y.move rfl) ?_))
       refine L.ite h rfl (Y.lss rfl rfl) (fun c22 h => ?_) (fun c22 h => ?_)
       ·
        refine L.nil (E.thenN (W.condT rfl ?_))
        refine W.seq (W.region (L.y rfl (Y.assign rfl) ?_))
        refine L.y rfl (Y.assign rfl) ?_
        refine L.nil (E.thenN (W.ret (E.KSR (E.blockR (E.KLR (E.blockR (E.KSR (E.ret2 rfl rfl rfl (fun w1 hw => ?_)))))))))
        obtain rfl := Option.some.inj h
        exact ⟨_, _, rfl, ⟨_, rfl, rfl⟩, (hw.nilSl 3 1).sel [0] (by decide) rfl⟩
       ·
        refine L.nil (E.thenN (W.condF rfl ?_))
        exact W.skip (E.joinJ ⟨rfl, rfl, h⟩ ⟨rfl, rfl, rfl, rfl, rfl, trivial⟩ (fun _ hw => hw))
      ·
       rintro _ _ ⟨rfl, rfl, h⟩
       rw [m6_graph_Order_K5] at h
       refine W.seq (W.region (L.y rfl (Y.move rfl) ?_))
       refine L.y rfl (Y.move rfl) ?_
       refine L.m (V := fun _ => el (sv b6 a0.toNat) (x7.toNat * 1)) h rfl (Y.indexM (g := I) (l := gl4) Try.underlying25 sz3 rfl rfl (fun w hw => As.at_ (hw.get (i := 2) rfl))) (fun x9 ex9 h => ?_)
       refine L.storeSlM (q := 2) (row := I) (vs := [.int .i64 (-1)]) (j := 0) (u1 := (-1)) h sz3 rfl rfl rfl rfl rfl (all1 rfl all0) rfl ex9 rfl rfl ?_
       intro l10 el10 h
       refine L.nil (E.thenN (W.seqJ (fun gs D => ∃ (gl7 : (List Int)), gs = [(0, .int .i64 a0), (7, v2), (8, (sv b6 a0.toNat)), (13, gv5), (14, .int .i64 x7)] ∧ D = Cls w [] [.sl v2 25 1 (zr svRow q3 l1), .ss (zs (svSd 3 1 I) q3 l1), .sl (sv b6 a0.toNat) 3 1 (gl7.map I), .sl gv5 3 1 (gl6.map I)] ∧ m6_graph_Order_K6 gl6 x7 go1 gl7 = some r) ?_ ?_))
       ·
        refine W.seq (W.region (L.y rfl (Y.move rfl) ?_))
        refine L.y rfl (Y.move rfl) ?_
        refine L.m (V := fun _ => el v2 (x7.toNat * 1)) h rfl (Y.indexMZ (row := svRow) (vs := q3) (l := l1) Try.underlying28 sz25 rfl rfl (fun w hw => As.at_ (hw.get (i := 0) rfl))) (fun x14 ex14 h => ?_)
        refine L.y rfl (Y.loadE1 (u := gv (q3 x7.toNat) 0) ag25 rfl (fun w hw => As.at_ (hw.get (i := 0) rfl)) (zr_idx (vs := q3) ex14)) ?_
        refine L.y rfl (Y.lenM (g := I) (l := x14) Try.underlying25 rfl (fun w hw => As.atZ (sds := (svSd 3 1 I)) (vs := q3) (j := 0) (c := 1) (hw.get (i := 1) rfl) (fun _ _ => rfl) ex14 rfl)) ?_
        refine L.y rfl (Y.move rfl) ?_
        refine L.nil (E.thenN (W.block (W.loopJ (fun m gs D => ∃ (gl8 : (List Int)) (gx9 : Int), gs = [(0, .int .i64 a0), (7, v2), (8, (sv b6 a0.toNat)), (13, gv5), (14, .int .i64 x7), (62, gv (q3 x7.toNat) 0), (63, .int .i64 (x14.length : Int)), (64, .int .i64 gx9)] ∧ D = Cls w [] [.sl v2 25 1 (zr svRow q3 l1), .ss (zs (svSd 3 1 I) q3 l1), .sl (sv b6 a0.toNat) 3 1 (gl8.map I), .sl gv5 3 1 (gl6.map I)] ∧ m6_graph_Order_L2 x14 gl6 x7 go1 m gl8 gx9 = some r) ⟨l10, 0, rfl, rfl, h⟩ ⟨rfl, rfl, rfl, rfl, rfl, rfl, rfl, rfl, trivial⟩ (fun _ hw => hw) ?_)))
        rintro m _ _ ⟨gl8, gx9, rfl, rfl, h⟩
        rcases m with _ | m
        · rw [m6_graph_Order_L2] at h; cases h
        rw [m6_graph_Order_L2] at h
        generalize hg2 : m6_graph_Order_L2 x14 gl6 x7 go1 m = go2 at h
        rw [m6_graph_Order_L2B] at h
        refine W.seq (W.region (L.ite h rfl (Y.lss rfl rfl) (fun c15 h => ?_) (fun c15 h => ?_)))
        ·
         refine L.nil (E.thenN (W.seq (W.condT rfl ?_)))
         refine W.skip (E.thenN (W.seq (W.block (W.seq (W.region (L.m (V := fun _ => el (gv (q3 x7.toNat) 0) (gx9.toNat * 1)) h rfl (Y.indexM (g := I) (l := x14) Try.underlying25 sz3 rfl rfl (fun w hw => As.atZ (sds := (svSd 3 1 I)) (vs := q3) (j := 0) (c := 1) (hw.get (i := 1) rfl) (fun _ _ => rfl) ex14 rfl)) (fun x16 ex16 h => ?_)))))))
         refine L.y rfl (Y.loadE1 (u := .int .i64 x16) ag3 rfl (fun w hw => As.atZ (sds := (svSd 3 1 I)) (vs := q3) (j := 0) (c := 1) (hw.get (i := 1) rfl) (fun _ _ => rfl) ex14 rfl) (idx_map ex16)) ?_
         refine L.y rfl (Y.assign rfl) ?_
         refine L.nil (E.thenN (W.region (L.y rfl (Y.move rfl) ?_)))
         refine L.y rfl (Y.move rfl) ?_
         refine L.m (V := fun _ => el (sv b6 a0.toNat) (x16.toNat * 1)) h rfl (Y.indexM (g := I) (l := gl8) Try.underlying25 sz3 rfl rfl (fun w hw => As.at_ (hw.get (i := 2) rfl))) (fun x17 ex17 h => ?_)
         refine L.y rfl (Y.loadE1 (u := .int .i64 x17) ag3 rfl (fun w hw => As.at_ (hw.get (i := 2) rfl)) (idx_map ex17)) ?_
         refine L.m (V := fun x18 => .int .i64 x18) h rfl (Y.subM rfl rfl) (fun x18 ex18 h => ?_)
         refine L.m (V := fun _ => el (sv b6 a0.toNat) (x16.toNat * 1)) h rfl (Y.indexM (g := I) (l := gl8) Try.underlying25 sz3 rfl rfl (fun w hw => As.at_ (hw.get (i := 2) rfl))) (fun x19 ex19 h => ?_)
         refine L.storeSlM (q := 2) (row := I) (vs := [.int .i64 x18]) (j := 0) (u1 := x18) h sz3 rfl rfl rfl rfl rfl (all1 rfl all0) rfl ex19 rfl rfl ?_
         intro l20 el20 h
         refine L.nil (E.blockN (E.thenN (W.region (L.m (V := fun x21 => .int .i64 x21) h rfl (Y.addM rfl rfl) (fun x21 ex21 h => ?_)))))
         refine L.y rfl (Y.move rfl) ?_
         exact L.nil (E.againJ ⟨l20, x21, rfl, rfl, by rw [hg2]; exact h⟩ (Nat.lt_succ_self _) ⟨rfl, rfl, rfl, rfl, rfl, rfl, rfl, rfl, trivial⟩ (fun _ hw => hw))
        ·
         refine L.nil (E.thenN (W.seq (W.condF rfl ?_)))
         exact W.exit (E.thenX (E.KLX (E.blockX (E.joinJ ⟨gl8, rfl, rfl, h⟩ ⟨rfl, rfl, rfl, rfl, rfl, trivial⟩ (fun _ hw => hw)))))
       ·
        rintro _ _ ⟨gl7, rfl, rfl, h⟩
        rw [m6_graph_Order_K6] at h
        refine W.region (L.y rfl (Y.move rfl) ?_)
        refine L.y rfl (Y.move rfl) ?_
        refine L.litOne rfl Try.underlying25 eL3 rfl rfl ?_
        intro b11
        refine L.appM (i := 4) (g := I) (l := gl6) (more := [x7]) h rfl Try.underlying25 eL3 rfl rfl rfl (fun w hw => As.at_ (hw.get (i := 0) rfl)) (plain_ints _) rfl ?_
        intro v12 l13 el13 h
        refine L.y rfl (Y.assign rfl) ?_
        exact L.nil (E.blockN (E.againJ ⟨gl7, v12, l13, rfl, rfl, by rw [hg1]; exact h⟩ (Nat.lt_succ_self _) ⟨rfl, rfl, rfl, rfl, trivial⟩ (fun _ hw => hw.sel [2, 3, 4, 0] (by decide) rfl)))
    ·
     rintro _ _ ⟨gv2, gl3, rfl, rfl, h⟩
     rw [m6_graph_Order_K3] at h
     refine W.seq (W.region (L.y rfl (Y.move rfl) ?_))
     refine L.y rfl (Y.assign rfl) ?_
     refine L.y rfl (Y.assign rfl) ?_
     refine L.nil (E.thenN (W.ret (E.ret2 rfl rfl rfl (fun w1 hw => ?_))))
     obtain rfl := Option.some.inj h
     exact ⟨_, _, rfl, ⟨_, rfl, rfl⟩, hw⟩
set_option maxRecDepth 100000 in
set_option maxHeartbeats 8000000 in
theorem w35_slices_Contains_int (a0 : (List Int)) (a1 : Int) (u0 : Value) (w : World) (r : Bool) (h : m35_slices_Contains_int a0 a1 = some r) (hA0 : At w u0 1 (a0.map I)) : Does Try.prog 35 [u0, .int .i64 a1] w fun u m => u = .bool r ∧ m = [] := by
  rw [m35_slices_Contains_int] at h
  refine body (n := 9) Try.func35 rfl rfl rfl (Cls.refl w) ?_
  refine W.seq (W.region (L.y rfl (Y.assign rfl) ?_))
  refine L.nil (E.thenN (W.seq (W.region (L.y rfl (Y.move rfl) ?_))))
  refine L.y rfl (Y.move rfl) ?_
  obtain ⟨x1, e2, h⟩ := bind1S h
  refine L.y rfl (Y.does en21 rfl (fun w' hw => (w21_slices_Index_int a0 a1 u0 w' _ e2 (hA0.cls0 hw)).mono (fun _ _ h => h.1))) ?_
  refine L.y rfl (Y.geq rfl rfl) ?_
  refine L.y rfl (Y.assign rfl) ?_
  refine L.nil (E.thenN (W.ret (E.ret1 rfl rfl (fun w1 hw => ?_))))
  obtain rfl := Option.some.inj h
  exact ⟨_, _, rfl, ⟨rfl, rfl⟩, hw⟩
set_option maxRecDepth 100000 in
set_option maxHeartbeats 8000000 in
theorem w25_slices_Clone_int (a0 : (List Int)) (u0 : Value) (w : World) (r : (List Int)) (h : m25_slices_Clone_int a0 = some r) (hA0 : At w u0 1 (a0.map I)) : Does Try.prog 25 [u0] w fun u m => ∃ v0, u = v0 ∧ m = [.sl v0 3 1 (r.map I)] := by
  rw [m25_slices_Clone_int] at h
  rcases hA0.shape with ⟨rfl, hn⟩ | ⟨ad, cap, rfl, hl, hm⟩
  ·
   obtain rfl : a0 = [] := by simpa using hn
   replace h : some ([] : List Int) = some r := by simpa [app] using h
   refine body (n := 8) Try.func25 rfl rfl rfl (Cls.refl w) ?_
   refine W.seq (W.region (L.y rfl (Y.assign rfl) ?_))
   refine L.nil (E.thenN (W.seq (W.seq (W.region (L.y rfl (Y.move rfl) ?_)))))
   refine L.y rfl (Y.eqlNil Try.underlying25 rfl rfl) ?_
   refine L.nil (E.thenN (W.condT rfl ?_))
   refine W.seq (W.region (L.y rfl (Y.assign rfl) ?_))
   refine L.nil (E.thenN (W.ret (E.thenR (E.ret1 rfl rfl (fun w1 hw => ?_)))))
   obtain rfl := Option.some.inj h
   exact ⟨_, _, rfl, ⟨_, rfl, rfl⟩, (hw.nilSl 3 1)⟩
  ·
   refine body (n := 8) Try.func25 rfl rfl rfl (Cls.refl w) ?_
   refine W.seq (W.region (L.y rfl (Y.assign rfl) ?_))
   refine L.nil (E.thenN (W.seq (W.seq (W.region (L.y rfl (Y.move rfl) ?_)))))
   refine L.y rfl (Y.eqlNil Try.underlying25 rfl rfl) ?_
   refine L.nil (E.thenN (W.condF rfl ?_))
   refine W.skip (E.thenN (W.seq (W.region (L.lit0 rfl Try.underlying25 eL3 ?_))))
   intro b1
   refine L.y rfl (Y.move rfl) ?_
   refine L.appM (i := 0) (g := I) (l := []) (more := a0) h rfl Try.underlying25 eL3 rfl rfl rfl (fun w' hw => hA0.cls0 hw) (plain_ints _) rfl ?_
   intro v2 l3 el3 h
   refine L.y rfl (Y.assign rfl) ?_
   refine L.nil (E.thenN (W.ret (E.ret1 rfl rfl (fun w1 hw => ?_))))
   obtain rfl := Option.some.inj h
   exact ⟨_, _, rfl, ⟨_, rfl, rfl⟩, hw⟩
set_option maxRecDepth 100000 in
set_option maxHeartbeats 8000000 in
theorem w22_graph_walker_visitR : ∀ (n : Nat) (a0_to : (List (List Int))) (a0_when : (List Int)) (a0_low : (List Int)) (a0_stack : (List Int)) (a0_parts : (List (List Int))) (a0_time : Int) (a1 : Int) (pb0 : Nat) (p0_to : Value) (q0_to : Nat → List Value) (p0_when : Value) (p0_low : Value) (p0_stack : Value) (p0_parts : Value) (q0_parts : Nat → List Value) (w : World) (r : ((List Int) × (List Int) × (List Int) × (List (List Int)) × Int)) (h : m22_graph_walker_visitR n a0_to a0_when a0_low a0_stack a0_parts a0_time a1 = some r) (F : List Nat) (hc0 : Cls w F [.obj pb0 [p0_to, p0_when, p0_low, p0_stack, p0_parts, .int .i64 a0_time] 50, .sl p0_to 25 1 (zr svRow q0_to a0_to), .ss (zs (svSd 3 1 I) q0_to a0_to), .sl p0_when 3 1 (a0_when.map I), .sl p0_low 3 1 (a0_low.map I), .sl p0_stack 3 1 (a0_stack.map I), .sl p0_parts 25 1 (zr svRow q0_parts a0_parts), .ss (zs (svSd 3 1 I) q0_parts a0_parts)] w), DoesF Try.prog 22 [pt pb0 0, .int .i64 a1] F w fun u m => ∃ y1 y2 y3 y4 z4, u = .tuple #[] ∧ m = [.obj pb0 [p0_to, y1, y2, y3, y4, .int .i64 r.2.2.2.2] 50, .sl p0_to 25 1 (zr svRow q0_to a0_to), .ss (zs (svSd 3 1 I) q0_to a0_to), .sl y1 3 1 (r.1.map I), .sl y2 3 1 (r.2.1.map I), .sl y3 3 1 (r.2.2.1.map I), .sl y4 25 1 (zr svRow z4 r.2.2.2.1), .ss (zs (svSd 3 1 I) z4 r.2.2.2.1)] := by
  intro n
  induction n with
  | zero => intro a0_to a0_when a0_low a0_stack a0_parts a0_time a1 pb0 p0_to q0_to p0_when p0_low p0_stack p0_parts q0_parts w r h F hc0; rw [m22_graph_walker_visitR] at h; cases h
  | succ n ih =>
  intro a0_to a0_when a0_low a0_stack a0_parts a0_time a1 pb0 p0_to q0_to p0_when p0_low p0_stack p0_parts q0_parts w r h F hc0
  rw [m22_graph_walker_visitR] at h
  generalize m22_graph_walker_visitR n = rec at h ih
  rw [m22_graph_walker_visitB] at h
  refine body (n := 168) Try.func22 rfl rfl rfl hc0 ?_
  refine W.seq (W.region (L.y rfl (Y.move rfl) ?_))
  refine L.y rfl (Y.nilCheck rfl) ?_
  refine L.y rfl (Y.fieldP fd50_5 rfl) ?_
  refine L.y rfl (Y.loadP (i := 0) ag3 rfl rfl rfl) ?_
  refine L.m (V := fun x1 => .int .i64 x1) h rfl (Y.addM rfl rfl) (fun x1 ex1 h => ?_)
  refine L.y rfl (Y.nilCheck rfl) ?_
  refine L.y rfl (Y.fieldP fd50_5 rfl) ?_
  refine L.store (i := 0) (vs := [.int .i64 x1]) sz3 rfl rfl rfl rfl (by simp [Value.oneCell', Value.cells, st, pt, el]) rfl (Nat.le_of_ble_eq_true rfl) ?_
  refine L.nil (E.thenN (W.seq (W.drawn2 (k := 22) (stC [[19, 21], [21]] [Cls w F [.obj pb0 [p0_to, p0_when, p0_low, p0_stack, p0_parts, .int .i64 x1] 50, .sl p0_to 25 1 (zr svRow q0_to a0_to), .ss (zs (svSd 3 1 I) q0_to a0_to), .sl p0_when 3 1 (a0_when.map I), .sl p0_low 3 1 (a0_low.map I), .sl p0_stack 3 1 (a0_stack.map I), .sl p0_parts 25 1 (zr svRow q0_parts a0_parts), .ss (zs (svSd 3 1 I) q0_parts a0_parts)], Cls w F [.obj pb0 [p0_to, p0_when, p0_low, p0_stack, p0_parts, .int .i64 x1] 50, .sl p0_to 25 1 (zr svRow q0_to a0_to), .ss (zs (svSd 3 1 I) q0_to a0_to), .sl p0_low 3 1 (a0_low.map I), .sl p0_stack 3 1 (a0_stack.map I), .sl p0_parts 25 1 (zr svRow q0_parts a0_parts), .ss (zs (svSd 3 1 I) q0_parts a0_parts)]] (Cls w F [.obj pb0 [p0_to, p0_when, p0_low, p0_stack, p0_parts, .int .i64 x1] 50, .sl p0_to 25 1 (zr svRow q0_to a0_to), .ss (zs (svSd 3 1 I) q0_to a0_to), .sl p0_stack 3 1 (a0_stack.map I), .sl p0_parts 25 1 (zr svRow q0_parts a0_parts), .ss (zs (svSd 3 1 I) q0_parts a0_parts)])) rfl mixed (fun _ hw => hw.drew) (Sc.now (by kernel_rfl) (fun _ hw => hw)) ?_)))
  refine V2.y (i := 0) (Nx2.of (Z := Cls w F [.obj pb0 [p0_to, p0_when, p0_low, p0_stack, p0_parts, .int .i64 x1] 50, .sl p0_to 25 1 (zr svRow q0_to a0_to), .ss (zs (svSd 3 1 I) q0_to a0_to), .sl p0_stack 3 1 (a0_stack.map I), .sl p0_parts 25 1 (zr svRow q0_parts a0_parts), .ss (zs (svSd 3 1 I) q0_parts a0_parts)]) [] (by kernel_rfl) rfl (Zc.on (fun _ hw => hw.sel [0, 1, 2, 5, 6, 7] (by decide) rfl) (Zc.on (fun _ hw => hw.sel [0, 1, 2, 4, 5, 6] (by decide) rfl) (Zc.fin (fun _ hw => hw))))) rfl rfl rfl (Y.move rfl) ?_
  refine V2.nilc (i := 1) (Nx2.of (Z := Cls w F [.obj pb0 [p0_to, p0_when, p0_low, p0_stack, p0_parts, .int .i64 x1] 50, .sl p0_to 25 1 (zr svRow q0_to a0_to), .ss (zs (svSd 3 1 I) q0_to a0_to), .sl p0_stack 3 1 (a0_stack.map I), .sl p0_parts 25 1 (zr svRow q0_parts a0_parts), .ss (zs (svSd 3 1 I) q0_parts a0_parts)]) [] (by kernel_rfl) rfl (Zc.on (fun _ hw => hw.sel [0, 1, 2, 5, 6, 7] (by decide) rfl) (Zc.on (fun _ hw => hw.sel [0, 1, 2, 4, 5, 6] (by decide) rfl) (Zc.fin (fun _ hw => hw))))) rfl rfl rfl ?_
  refine V2.y (i := 2) (Nx2.of (Z := Cls w F [.obj pb0 [p0_to, p0_when, p0_low, p0_stack, p0_parts, .int .i64 x1] 50, .sl p0_to 25 1 (zr svRow q0_to a0_to), .ss (zs (svSd 3 1 I) q0_to a0_to), .sl p0_stack 3 1 (a0_stack.map I), .sl p0_parts 25 1 (zr svRow q0_parts a0_parts), .ss (zs (svSd 3 1 I) q0_parts a0_parts)]) [] (by kernel_rfl) rfl (Zc.on (fun _ hw => hw.sel [0, 1, 2, 5, 6, 7] (by decide) rfl) (Zc.on (fun _ hw => hw.sel [0, 1, 2, 4, 5, 6] (by decide) rfl) (Zc.fin (fun _ hw => hw))))) rfl rfl rfl (Y.fieldP fd50_1 rfl) ?_
  refine V2.y (i := 3) (Nx2.of (Z := Cls w F [.obj pb0 [p0_to, p0_when, p0_low, p0_stack, p0_parts, .int .i64 x1] 50, .sl p0_to 25 1 (zr svRow q0_to a0_to), .ss (zs (svSd 3 1 I) q0_to a0_to), .sl p0_stack 3 1 (a0_stack.map I), .sl p0_parts 25 1 (zr svRow q0_parts a0_parts), .ss (zs (svSd 3 1 I) q0_parts a0_parts)]) [] (by kernel_rfl) rfl (Zc.on (fun _ hw => hw.sel [0, 1, 2, 5, 6, 7] (by decide) rfl) (Zc.on (fun _ hw => hw.sel [0, 1, 2, 4, 5, 6] (by decide) rfl) (Zc.fin (fun _ hw => hw))))) rfl rfl rfl (Y.loadP (i := 0) ag25 rfl rfl rfl) ?_
  refine V2.y (i := 4) (Nx2.of (Z := Cls w F [.obj pb0 [p0_to, p0_when, p0_low, p0_stack, p0_parts, .int .i64 x1] 50, .sl p0_to 25 1 (zr svRow q0_to a0_to), .ss (zs (svSd 3 1 I) q0_to a0_to), .sl p0_stack 3 1 (a0_stack.map I), .sl p0_parts 25 1 (zr svRow q0_parts a0_parts), .ss (zs (svSd 3 1 I) q0_parts a0_parts)]) [] (by kernel_rfl) rfl (Zc.on (fun _ hw => hw.sel [0, 1, 2, 5, 6, 7] (by decide) rfl) (Zc.on (fun _ hw => hw.sel [0, 1, 2, 4, 5, 6] (by decide) rfl) (Zc.fin (fun _ hw => hw))))) rfl rfl rfl (Y.move rfl) ?_
  refine V2.y (i := 5) (Nx2.of (Z := Cls w F [.obj pb0 [p0_to, p0_when, p0_low, p0_stack, p0_parts, .int .i64 x1] 50, .sl p0_to 25 1 (zr svRow q0_to a0_to), .ss (zs (svSd 3 1 I) q0_to a0_to), .sl p0_stack 3 1 (a0_stack.map I), .sl p0_parts 25 1 (zr svRow q0_parts a0_parts), .ss (zs (svSd 3 1 I) q0_parts a0_parts)]) [] (by kernel_rfl) rfl (Zc.on (fun _ hw => hw.sel [0, 1, 2, 5, 6, 7] (by decide) rfl) (Zc.on (fun _ hw => hw.sel [0, 1, 2, 4, 5, 6] (by decide) rfl) (Zc.fin (fun _ hw => hw))))) rfl rfl rfl (Y.move rfl) ?_
  refine V2.nilc (i := 6) (Nx2.of (Z := Cls w F [.obj pb0 [p0_to, p0_when, p0_low, p0_stack, p0_parts, .int .i64 x1] 50, .sl p0_to 25 1 (zr svRow q0_to a0_to), .ss (zs (svSd 3 1 I) q0_to a0_to), .sl p0_stack 3 1 (a0_stack.map I), .sl p0_parts 25 1 (zr svRow q0_parts a0_parts), .ss (zs (svSd 3 1 I) q0_parts a0_parts)]) [] (by kernel_rfl) rfl (Zc.on (fun _ hw => hw.sel [0, 1, 2, 5, 6, 7] (by decide) rfl) (Zc.on (fun _ hw => hw.sel [0, 1, 2, 4, 5, 6] (by decide) rfl) (Zc.fin (fun _ hw => hw))))) rfl rfl rfl ?_
  refine V2.y (i := 7) (Nx2.of (Z := Cls w F [.obj pb0 [p0_to, p0_when, p0_low, p0_stack, p0_parts, .int .i64 x1] 50, .sl p0_to 25 1 (zr svRow q0_to a0_to), .ss (zs (svSd 3 1 I) q0_to a0_to), .sl p0_stack 3 1 (a0_stack.map I), .sl p0_parts 25 1 (zr svRow q0_parts a0_parts), .ss (zs (svSd 3 1 I) q0_parts a0_parts)]) [] (by kernel_rfl) rfl (Zc.on (fun _ hw => hw.sel [0, 1, 2, 5, 6, 7] (by decide) rfl) (Zc.on (fun _ hw => hw.sel [0, 1, 2, 4, 5, 6] (by decide) rfl) (Zc.fin (fun _ hw => hw))))) rfl rfl rfl (Y.fieldP fd50_2 rfl) ?_
  refine V2.y (i := 8) (Nx2.of (Z := Cls w F [.obj pb0 [p0_to, p0_when, p0_low, p0_stack, p0_parts, .int .i64 x1] 50, .sl p0_to 25 1 (zr svRow q0_to a0_to), .ss (zs (svSd 3 1 I) q0_to a0_to), .sl p0_stack 3 1 (a0_stack.map I), .sl p0_parts 25 1 (zr svRow q0_parts a0_parts), .ss (zs (svSd 3 1 I) q0_parts a0_parts)]) [] (by kernel_rfl) rfl (Zc.on (fun _ hw => hw.sel [0, 1, 2, 5, 6, 7] (by decide) rfl) (Zc.on (fun _ hw => hw.sel [0, 1, 2, 4, 5, 6] (by decide) rfl) (Zc.fin (fun _ hw => hw))))) rfl rfl rfl (Y.loadP (i := 0) ag25 rfl rfl rfl) ?_
  refine V2.y (i := 9) (Nx2.of (Z := Cls w F [.obj pb0 [p0_to, p0_when, p0_low, p0_stack, p0_parts, .int .i64 x1] 50, .sl p0_to 25 1 (zr svRow q0_to a0_to), .ss (zs (svSd 3 1 I) q0_to a0_to), .sl p0_stack 3 1 (a0_stack.map I), .sl p0_parts 25 1 (zr svRow q0_parts a0_parts), .ss (zs (svSd 3 1 I) q0_parts a0_parts)]) [] (by kernel_rfl) rfl (Zc.on (fun _ hw => hw.sel [0, 1, 2, 5, 6, 7] (by decide) rfl) (Zc.on (fun _ hw => hw.sel [0, 1, 2, 4, 5, 6] (by decide) rfl) (Zc.fin (fun _ hw => hw))))) rfl rfl rfl (Y.move rfl) ?_
  refine V2.y (i := 10) (Nx2.of (Z := Cls w F [.obj pb0 [p0_to, p0_when, p0_low, p0_stack, p0_parts, .int .i64 x1] 50, .sl p0_to 25 1 (zr svRow q0_to a0_to), .ss (zs (svSd 3 1 I) q0_to a0_to), .sl p0_stack 3 1 (a0_stack.map I), .sl p0_parts 25 1 (zr svRow q0_parts a0_parts), .ss (zs (svSd 3 1 I) q0_parts a0_parts)]) [] (by kernel_rfl) rfl (Zc.on (fun _ hw => hw.sel [0, 1, 2, 5, 6, 7] (by decide) rfl) (Zc.on (fun _ hw => hw.sel [0, 1, 2, 4, 5, 6] (by decide) rfl) (Zc.fin (fun _ hw => hw))))) rfl rfl rfl (Y.move rfl) ?_
  refine V2.nilc (i := 11) (Nx2.of (Z := Cls w F [.obj pb0 [p0_to, p0_when, p0_low, p0_stack, p0_parts, .int .i64 x1] 50, .sl p0_to 25 1 (zr svRow q0_to a0_to), .ss (zs (svSd 3 1 I) q0_to a0_to), .sl p0_stack 3 1 (a0_stack.map I), .sl p0_parts 25 1 (zr svRow q0_parts a0_parts), .ss (zs (svSd 3 1 I) q0_parts a0_parts)]) [] (by kernel_rfl) rfl (Zc.on (fun _ hw => hw.sel [0, 1, 2, 5, 6, 7] (by decide) rfl) (Zc.on (fun _ hw => hw.sel [0, 1, 2, 4, 5, 6] (by decide) rfl) (Zc.fin (fun _ hw => hw))))) rfl rfl rfl ?_
  refine V2.y (i := 12) (Nx2.of (Z := Cls w F [.obj pb0 [p0_to, p0_when, p0_low, p0_stack, p0_parts, .int .i64 x1] 50, .sl p0_to 25 1 (zr svRow q0_to a0_to), .ss (zs (svSd 3 1 I) q0_to a0_to), .sl p0_stack 3 1 (a0_stack.map I), .sl p0_parts 25 1 (zr svRow q0_parts a0_parts), .ss (zs (svSd 3 1 I) q0_parts a0_parts)]) [] (by kernel_rfl) rfl (Zc.on (fun _ hw => hw.sel [0, 1, 2, 5, 6, 7] (by decide) rfl) (Zc.on (fun _ hw => hw.sel [0, 1, 2, 4, 5, 6] (by decide) rfl) (Zc.fin (fun _ hw => hw))))) rfl rfl rfl (Y.fieldP fd50_5 rfl) ?_
  refine V2.y (i := 13) (Nx2.of (Z := Cls w F [.obj pb0 [p0_to, p0_when, p0_low, p0_stack, p0_parts, .int .i64 x1] 50, .sl p0_to 25 1 (zr svRow q0_to a0_to), .ss (zs (svSd 3 1 I) q0_to a0_to), .sl p0_stack 3 1 (a0_stack.map I), .sl p0_parts 25 1 (zr svRow q0_parts a0_parts), .ss (zs (svSd 3 1 I) q0_parts a0_parts)]) [] (by kernel_rfl) rfl (Zc.on (fun _ hw => hw.sel [0, 1, 2, 5, 6, 7] (by decide) rfl) (Zc.on (fun _ hw => hw.sel [0, 1, 2, 4, 5, 6] (by decide) rfl) (Zc.fin (fun _ hw => hw))))) rfl rfl rfl (Y.loadP (i := 0) ag3 rfl rfl rfl) ?_
  refine V2.y (i := 14) (Nx2.of (Z := Cls w F [.obj pb0 [p0_to, p0_when, p0_low, p0_stack, p0_parts, .int .i64 x1] 50, .sl p0_to 25 1 (zr svRow q0_to a0_to), .ss (zs (svSd 3 1 I) q0_to a0_to), .sl p0_stack 3 1 (a0_stack.map I), .sl p0_parts 25 1 (zr svRow q0_parts a0_parts), .ss (zs (svSd 3 1 I) q0_parts a0_parts)]) [] (by kernel_rfl) rfl (Zc.on (fun _ hw => hw.sel [0, 1, 2, 5, 6, 7] (by decide) rfl) (Zc.on (fun _ hw => hw.sel [0, 1, 2, 4, 5, 6] (by decide) rfl) (Zc.fin (fun _ hw => hw))))) rfl rfl rfl (Y.move rfl) ?_
  refine V2.nilc (i := 15) (Nx2.of (Z := Cls w F [.obj pb0 [p0_to, p0_when, p0_low, p0_stack, p0_parts, .int .i64 x1] 50, .sl p0_to 25 1 (zr svRow q0_to a0_to), .ss (zs (svSd 3 1 I) q0_to a0_to), .sl p0_stack 3 1 (a0_stack.map I), .sl p0_parts 25 1 (zr svRow q0_parts a0_parts), .ss (zs (svSd 3 1 I) q0_parts a0_parts)]) [] (by kernel_rfl) rfl (Zc.on (fun _ hw => hw.sel [0, 1, 2, 5, 6, 7] (by decide) rfl) (Zc.on (fun _ hw => hw.sel [0, 1, 2, 4, 5, 6] (by decide) rfl) (Zc.fin (fun _ hw => hw))))) rfl rfl rfl ?_
  refine V2.y (i := 16) (Nx2.of (Z := Cls w F [.obj pb0 [p0_to, p0_when, p0_low, p0_stack, p0_parts, .int .i64 x1] 50, .sl p0_to 25 1 (zr svRow q0_to a0_to), .ss (zs (svSd 3 1 I) q0_to a0_to), .sl p0_stack 3 1 (a0_stack.map I), .sl p0_parts 25 1 (zr svRow q0_parts a0_parts), .ss (zs (svSd 3 1 I) q0_parts a0_parts)]) [] (by kernel_rfl) rfl (Zc.on (fun _ hw => hw.sel [0, 1, 2, 5, 6, 7] (by decide) rfl) (Zc.on (fun _ hw => hw.sel [0, 1, 2, 4, 5, 6] (by decide) rfl) (Zc.fin (fun _ hw => hw))))) rfl rfl rfl (Y.fieldP fd50_5 rfl) ?_
  refine V2.y (i := 17) (Nx2.of (Z := Cls w F [.obj pb0 [p0_to, p0_when, p0_low, p0_stack, p0_parts, .int .i64 x1] 50, .sl p0_to 25 1 (zr svRow q0_to a0_to), .ss (zs (svSd 3 1 I) q0_to a0_to), .sl p0_stack 3 1 (a0_stack.map I), .sl p0_parts 25 1 (zr svRow q0_parts a0_parts), .ss (zs (svSd 3 1 I) q0_parts a0_parts)]) [] (by kernel_rfl) rfl (Zc.on (fun _ hw => hw.sel [0, 1, 2, 5, 6, 7] (by decide) rfl) (Zc.on (fun _ hw => hw.sel [0, 1, 2, 4, 5, 6] (by decide) rfl) (Zc.fin (fun _ hw => hw))))) rfl rfl rfl (Y.loadP (i := 0) ag3 rfl rfl rfl) ?_
  refine V2.m (i := 18) (V' := fun _ => el p0_when (a1.toNat * 1)) h (Nx2.of (Z := Cls w F [.obj pb0 [p0_to, p0_when, p0_low, p0_stack, p0_parts, .int .i64 x1] 50, .sl p0_to 25 1 (zr svRow q0_to a0_to), .ss (zs (svSd 3 1 I) q0_to a0_to), .sl p0_when 3 1 (a0_when.map I), .sl p0_low 3 1 (a0_low.map I), .sl p0_stack 3 1 (a0_stack.map I), .sl p0_parts 25 1 (zr svRow q0_parts a0_parts), .ss (zs (svSd 3 1 I) q0_parts a0_parts)]) [19, 21] (by kernel_rfl) rfl (Zc.at1 (fun _ hw => hw))) rfl rfl rfl (Y.indexM (g := I) (l := a0_when) Try.underlying25 sz3 rfl rfl (fun w hw => As.at_ (hw.get (i := 3) rfl))) (fun x8 ex8 h => ?_)
  refine V2.eff (i := 19) (by kernel_rfl) rfl ?_
  refine L.storeSlM (q := 3) (row := I) (vs := [.int .i64 x1]) (j := 0) (u1 := x1) h sz3 rfl rfl rfl rfl rfl (all1 rfl all0) rfl ex8 rfl rfl ?_
  intro l9 el9 h
  refine L.nil (E.toV2 (stC [[21]] [Cls w F [.obj pb0 [p0_to, p0_when, p0_low, p0_stack, p0_parts, .int .i64 x1] 50, .sl p0_to 25 1 (zr svRow q0_to a0_to), .ss (zs (svSd 3 1 I) q0_to a0_to), .sl p0_low 3 1 (a0_low.map I), .sl p0_stack 3 1 (a0_stack.map I), .sl p0_parts 25 1 (zr svRow q0_parts a0_parts), .ss (zs (svSd 3 1 I) q0_parts a0_parts)]] (Cls w F [.obj pb0 [p0_to, p0_when, p0_low, p0_stack, p0_parts, .int .i64 x1] 50, .sl p0_to 25 1 (zr svRow q0_to a0_to), .ss (zs (svSd 3 1 I) q0_to a0_to), .sl p0_stack 3 1 (a0_stack.map I), .sl p0_parts 25 1 (zr svRow q0_parts a0_parts), .ss (zs (svSd 3 1 I) q0_parts a0_parts)])) 19 (by kernel_rfl) (Sc.past rfl (Sc.stay (fun _ hw => hw) (Sc.stayD (fun _ hw => hw)))) (Sc.now (by kernel_rfl) (fun _ hw => hw.sel [0, 1, 2, 4, 5, 6, 7] (by decide) rfl)) ?_)
  refine V2.m (i := 20) (V' := fun _ => el p0_low (a1.toNat * 1)) h (Nx2.of (Z := Cls w F [.obj pb0 [p0_to, p0_when, p0_low, p0_stack, p0_parts, .int .i64 x1] 50, .sl p0_to 25 1 (zr svRow q0_to a0_to), .ss (zs (svSd 3 1 I) q0_to a0_to), .sl p0_low 3 1 (a0_low.map I), .sl p0_stack 3 1 (a0_stack.map I), .sl p0_parts 25 1 (zr svRow q0_parts a0_parts), .ss (zs (svSd 3 1 I) q0_parts a0_parts)]) [21] (by kernel_rfl) rfl (Zc.at1 (fun _ hw => hw))) rfl rfl rfl (Y.indexM (g := I) (l := a0_low) Try.underlying25 sz3 rfl rfl (fun w hw => As.at_ (hw.get (i := 3) rfl))) (fun x10 ex10 h => ?_)
  refine V2.eff (i := 21) (by kernel_rfl) rfl ?_
  refine L.storeSlM (q := 4) (row := I) (vs := [.int .i64 x1]) (j := 0) (u1 := x1) h sz3 rfl rfl rfl rfl rfl (all1 rfl all0) rfl ex10 rfl rfl ?_
  intro l11 el11 h
  refine L.nil (E.toV2 (stC [] [] (Cls w F [.obj pb0 [p0_to, p0_when, p0_low, p0_stack, p0_parts, .int .i64 x1] 50, .sl p0_to 25 1 (zr svRow q0_to a0_to), .ss (zs (svSd 3 1 I) q0_to a0_to), .sl p0_stack 3 1 (a0_stack.map I), .sl p0_parts 25 1 (zr svRow q0_parts a0_parts), .ss (zs (svSd 3 1 I) q0_parts a0_parts)])) 21 (by kernel_rfl) (Sc.past rfl (Sc.stayD (fun _ hw => hw))) (Sc.atD (fun _ hw => hw.sel [0, 1, 2, 5, 6, 7] (by decide) rfl)) ?_)
  refine V2.done (by kernel_rfl) ?_
  refine E.thenN (W.seq (W.region (L.y rfl (Y.move rfl) ?_)))
  refine L.y rfl (Y.move rfl) ?_
  refine L.y rfl (Y.nilCheck rfl) ?_
  refine L.y rfl (Y.fieldP fd50_3 rfl) ?_
  refine L.y rfl (Y.loadP (i := 0) ag25 rfl rfl rfl) ?_
  refine L.y rfl (Y.move rfl) ?_
  refine L.litOne rfl Try.underlying25 eL3 rfl rfl ?_
  intro b12
  refine L.appM (i := 6) (g := I) (l := a0_stack) (more := [a1]) h rfl Try.underlying25 eL3 rfl rfl rfl (fun w hw => As.at_ (hw.get (i := 0) rfl)) (plain_ints _) rfl ?_
  intro v13 l14 el14 h
  refine L.y rfl (Y.nilCheck rfl) ?_
  refine L.y rfl (Y.fieldP fd50_3 rfl) ?_
  refine L.storeV (i := 2) sz25 rfl rfl (fun _ hw => (As.at_ (hw.get (i := 0) rfl)).one) rfl (Nat.le_of_ble_eq_true rfl) ?_
  refine L.nil (E.thenN (W.seqJ (fun gs D => ∃ (gv1 : Value) (gl2 : (List Int)) (gv3 : Value) (gl4 : (List Int)) (gv5 : Value) (gl6 : (List Int)) (gv7 : Value) (gl8 : (List (List Int))) (gq9 : Nat → List Value) (gx10 : Int), gs = [(0, pt pb0 0), (1, .int .i64 a1)] ∧ D = Cls w F [.obj pb0 [p0_to, gv1, gv3, gv5, gv7, .int .i64 gx10] 50, .sl p0_to 25 1 (zr svRow q0_to a0_to), .ss (zs (svSd 3 1 I) q0_to a0_to), .sl gv1 3 1 (gl2.map I), .sl gv3 3 1 (gl4.map I), .sl gv5 3 1 (gl6.map I), .sl gv7 25 1 (zr svRow gq9 gl8), .ss (zs (svSd 3 1 I) gq9 gl8)] ∧ m22_graph_walker_visit_K1 a1 gl2 gl4 gl6 gl8 gx10 = some r) ?_ ?_))
  ·
   refine W.seq (W.region (L.y rfl (Y.move rfl) ?_))
   refine L.y rfl (Y.nilCheck rfl) ?_
   refine L.y rfl (Y.fieldP fd50_0 rfl) ?_
   refine L.y rfl (Y.loadP (i := 2) ag28 rfl rfl rfl) ?_
   refine L.y rfl (Y.move rfl) ?_
   refine L.m (V := fun _ => el p0_to (a1.toNat * 1)) h rfl (Y.indexMZ (row := svRow) (vs := q0_to) (l := a0_to) Try.underlying28 sz25 rfl rfl (fun w hw => As.at_ (hw.get (i := 3) rfl))) (fun x32 ex32 h => ?_)
   refine L.y rfl (Y.loadE1 (u := gv (q0_to a1.toNat) 0) ag25 rfl (fun w hw => As.at_ (hw.get (i := 3) rfl)) (zr_idx (vs := q0_to) ex32)) ?_
   refine L.y rfl (Y.lenM (g := I) (l := x32) Try.underlying25 rfl (fun w hw => As.atZ (sds := (svSd 3 1 I)) (vs := q0_to) (j := 0) (c := 1) (hw.get (i := 4) rfl) (fun _ _ => rfl) ex32 rfl)) ?_
   refine L.y rfl (Y.move rfl) ?_
   refine L.nil (E.thenN (W.block (W.loopJ (fun m gs D => ∃ (gx11 : Int) (gv12 : Value) (gl13 : (List Int)) (gv14 : Value) (gl15 : (List Int)) (gv16 : Value) (gl17 : (List Int)) (gv18 : Value) (gl19 : (List (List Int))) (gq20 : Nat → List Value) (gx21 : Int), gs = [(0, pt pb0 0), (1, .int .i64 a1), (51, gv (q0_to a1.toNat) 0), (52, .int .i64 (x32.length : Int)), (53, .int .i64 gx11)] ∧ D = Cls w F [.obj pb0 [p0_to, gv12, gv14, gv16, gv18, .int .i64 gx21] 50, .sl p0_to 25 1 (zr svRow q0_to a0_to), .ss (zs (svSd 3 1 I) q0_to a0_to), .sl gv12 3 1 (gl13.map I), .sl gv14 3 1 (gl15.map I), .sl gv16 3 1 (gl17.map I), .sl gv18 25 1 (zr svRow gq20 gl19), .ss (zs (svSd 3 1 I) gq20 gl19)] ∧ m22_graph_walker_visit_L1 x32 rec a0_to a1 m gx11 gl13 gl15 gl17 gl19 gx21 = some r) ⟨0, p0_when, l9, p0_low, l11, v13, l14, p0_parts, a0_parts, q0_parts, x1, rfl, rfl, h⟩ ⟨rfl, rfl, rfl, rfl, rfl, trivial⟩ (fun _ hw => hw.sel [2, 3, 4, 5, 6, 0, 7, 8] (by decide) rfl) ?_)))
   rintro m _ _ ⟨gx11, gv12, gl13, gv14, gl15, gv16, gl17, gv18, gl19, gq20, gx21, rfl, rfl, h⟩
   rcases m with _ | m
   · rw [m22_graph_walker_visit_L1] at h; cases h
   rw [m22_graph_walker_visit_L1] at h
   generalize hg1 : m22_graph_walker_visit_L1 x32 rec a0_to a1 m = go1 at h
   rw [m22_graph_walker_visit_L1B] at h
   refine W.seq (W.region (L.ite h rfl (Y.lss rfl rfl) (fun c33 h => ?_) (fun c33 h => ?_)))
   ·
    refine L.nil (E.thenN (W.seq (W.condT rfl ?_)))
    refine W.skip (E.thenN (W.seq (W.block (W.seq (W.region (L.m (V := fun _ => el (gv (q0_to a1.toNat) 0) (gx11.toNat * 1)) h rfl (Y.indexM (g := I) (l := x32) Try.underlying25 sz3 rfl rfl (fun w hw => As.atZ (sds := (svSd 3 1 I)) (vs := q0_to) (j := 0) (c := 1) (hw.get (i := 2) rfl) (fun _ _ => rfl) ex32 rfl)) (fun x34 ex34 h => ?_)))))))
    refine L.y rfl (Y.loadE1 (u := .int .i64 x34) ag3 rfl (fun w hw => As.atZ (sds := (svSd 3 1 I)) (vs := q0_to) (j := 0) (c := 1) (hw.get (i := 2) rfl) (fun _ _ => rfl) ex32 rfl) (idx_map ex34)) ?_
    refine L.y rfl (Y.assign rfl) ?_
    refine L.nil (E.thenN (W.block (W.seqJ (fun gs D => ∃ (gb22 : Bool), gs = [(0, pt pb0 0), (1, .int .i64 a1), (5, .int .i64 x34), (51, gv (q0_to a1.toNat) 0), (52, .int .i64 (x32.length : Int)), (53, .int .i64 gx11), (57, .bool gb22)] ∧ D = Cls w F [.obj pb0 [p0_to, gv12, gv14, gv16, gv18, .int .i64 gx21] 50, .sl p0_to 25 1 (zr svRow q0_to a0_to), .ss (zs (svSd 3 1 I) q0_to a0_to), .sl gv12 3 1 (gl13.map I), .sl gv14 3 1 (gl15.map I), .sl gv16 3 1 (gl17.map I), .sl gv18 25 1 (zr svRow gq20 gl19), .ss (zs (svSd 3 1 I) gq20 gl19)] ∧ m22_graph_walker_visit_K2 rec a0_to gl13 gl15 gl17 gl19 gx21 x34 a1 gx11 go1 gb22 = some r) ?_ ?_)))
    ·
     refine W.region (L.y rfl (Y.move rfl) ?_)
     refine L.y rfl (Y.nilCheck rfl) ?_
     refine L.y rfl (Y.fieldP fd50_1 rfl) ?_
     refine L.y rfl (Y.loadP (i := 0) ag25 rfl rfl rfl) ?_
     refine L.y rfl (Y.move rfl) ?_
     refine L.m (V := fun _ => el gv12 (x34.toNat * 1)) h rfl (Y.indexM (g := I) (l := gl13) Try.underlying25 sz3 rfl rfl (fun w hw => As.at_ (hw.get (i := 3) rfl))) (fun x67 ex67 h => ?_)
     refine L.y rfl (Y.loadE1 (u := .int .i64 x67) ag3 rfl (fun w hw => As.at_ (hw.get (i := 3) rfl)) (idx_map ex67)) ?_
     refine L.ite h rfl (Y.eql rfl rfl) (fun c68 h => ?_) (fun c68 h => ?_)
     ·
      refine L.y rfl (Y.assign rfl) ?_
      exact L.nil (E.joinJ ⟨true, rfl, rfl, h⟩ ⟨rfl, rfl, rfl, rfl, rfl, rfl, rfl, trivial⟩ (fun _ hw => hw))
     ·
      refine L.y rfl (Y.assign rfl) ?_
      exact L.nil (E.joinJ ⟨false, rfl, rfl, h⟩ ⟨rfl, rfl, rfl, rfl, rfl, rfl, rfl, trivial⟩ (fun _ hw => hw))
    ·
     rintro _ _ ⟨gb22, rfl, rfl, h⟩
     rw [m22_graph_walker_visit_K2] at h
     rcases gb22 with _ | _
     ·
      replace h := iteF h
      refine W.condF rfl ?_
      refine W.seq (W.region (L.y rfl (Y.move rfl) ?_))
      refine L.y rfl (Y.nilCheck rfl) ?_
      refine L.y rfl (Y.fieldP fd50_3 rfl) ?_
      refine L.y rfl (Y.loadP (i := 0) ag25 rfl rfl rfl) ?_
      refine L.y rfl (Y.move rfl) ?_
      obtain ⟨b35, e36, h⟩ := bind1S h
      refine L.y rfl (Y.does en35 rfl (fun w' hw => (w35_slices_Contains_int gl17 x34 gv16 w' _ e36 (As.at_ (hw.get (i := 5) rfl))).mono (fun _ _ h => h.1))) ?_
      rcases b35 with _ | _
      ·
       replace h := iteF h
       refine L.y rfl (Y.assign rfl) ?_
       refine L.nil (E.thenN (W.condF rfl ?_))
       refine W.skip (E.blockN (E.blockN (E.thenN (W.region (L.m (V := fun x37 => .int .i64 x37) h rfl (Y.addM rfl rfl) (fun x37 ex37 h => ?_))))))
       refine L.y rfl (Y.move rfl) ?_
       exact L.nil (E.againJ ⟨x37, gv12, gl13, gv14, gl15, gv16, gl17, gv18, gl19, gq20, gx21, rfl, rfl, by rw [hg1]; exact h⟩ (Nat.lt_succ_self _) ⟨rfl, rfl, rfl, rfl, rfl, trivial⟩ (fun _ hw => hw))
      ·
       replace h := iteT h
       refine L.y rfl (Y.assign rfl) ?_
       refine L.nil (E.thenN (W.condT rfl ?_))
       refine W.drawn2 (k := 22) (stC [[21]] [Cls w F [.obj pb0 [p0_to, gv12, gv14, gv16, gv18, .int .i64 gx21] 50, .sl p0_to 25 1 (zr svRow q0_to a0_to), .ss (zs (svSd 3 1 I) q0_to a0_to), .sl gv12 3 1 (gl13.map I), .sl gv14 3 1 (gl15.map I), .sl gv16 3 1 (gl17.map I), .sl gv18 25 1 (zr svRow gq20 gl19), .ss (zs (svSd 3 1 I) gq20 gl19)]] (Cls w F [.obj pb0 [p0_to, gv12, gv14, gv16, gv18, .int .i64 gx21] 50, .sl p0_to 25 1 (zr svRow q0_to a0_to), .ss (zs (svSd 3 1 I) q0_to a0_to), .sl gv12 3 1 (gl13.map I), .sl gv16 3 1 (gl17.map I), .sl gv18 25 1 (zr svRow gq20 gl19), .ss (zs (svSd 3 1 I) gq20 gl19)])) rfl mixed (fun _ hw => hw.drew) (Sc.now (by kernel_rfl) (fun _ hw => hw)) ?_
       refine V2.y (i := 0) (Nx2.of (Z := Cls w F [.obj pb0 [p0_to, gv12, gv14, gv16, gv18, .int .i64 gx21] 50, .sl p0_to 25 1 (zr svRow q0_to a0_to), .ss (zs (svSd 3 1 I) q0_to a0_to), .sl gv12 3 1 (gl13.map I), .sl gv16 3 1 (gl17.map I), .sl gv18 25 1 (zr svRow gq20 gl19), .ss (zs (svSd 3 1 I) gq20 gl19)]) [] (by kernel_rfl) rfl (Zc.on (fun _ hw => hw.sel [0, 1, 2, 3, 5, 6, 7] (by decide) rfl) (Zc.fin (fun _ hw => hw)))) rfl rfl rfl (Y.move rfl) ?_
       refine V2.nilc (i := 1) (Nx2.of (Z := Cls w F [.obj pb0 [p0_to, gv12, gv14, gv16, gv18, .int .i64 gx21] 50, .sl p0_to 25 1 (zr svRow q0_to a0_to), .ss (zs (svSd 3 1 I) q0_to a0_to), .sl gv12 3 1 (gl13.map I), .sl gv16 3 1 (gl17.map I), .sl gv18 25 1 (zr svRow gq20 gl19), .ss (zs (svSd 3 1 I) gq20 gl19)]) [] (by kernel_rfl) rfl (Zc.on (fun _ hw => hw.sel [0, 1, 2, 3, 5, 6, 7] (by decide) rfl) (Zc.fin (fun _ hw => hw)))) rfl rfl rfl ?_
       refine V2.y (i := 2) (Nx2.of (Z := Cls w F [.obj pb0 [p0_to, gv12, gv14, gv16, gv18, .int .i64 gx21] 50, .sl p0_to 25 1 (zr svRow q0_to a0_to), .ss (zs (svSd 3 1 I) q0_to a0_to), .sl gv12 3 1 (gl13.map I), .sl gv16 3 1 (gl17.map I), .sl gv18 25 1 (zr svRow gq20 gl19), .ss (zs (svSd 3 1 I) gq20 gl19)]) [] (by kernel_rfl) rfl (Zc.on (fun _ hw => hw.sel [0, 1, 2, 3, 5, 6, 7] (by decide) rfl) (Zc.fin (fun _ hw => hw)))) rfl rfl rfl (Y.fieldP fd50_2 rfl) ?_
       refine V2.y (i := 3) (Nx2.of (Z := Cls w F [.obj pb0 [p0_to, gv12, gv14, gv16, gv18, .int .i64 gx21] 50, .sl p0_to 25 1 (zr svRow q0_to a0_to), .ss (zs (svSd 3 1 I) q0_to a0_to), .sl gv12 3 1 (gl13.map I), .sl gv16 3 1 (gl17.map I), .sl gv18 25 1 (zr svRow gq20 gl19), .ss (zs (svSd 3 1 I) gq20 gl19)]) [] (by kernel_rfl) rfl (Zc.on (fun _ hw => hw.sel [0, 1, 2, 3, 5, 6, 7] (by decide) rfl) (Zc.fin (fun _ hw => hw)))) rfl rfl rfl (Y.loadP (i := 0) ag25 rfl rfl rfl) ?_
       refine V2.y (i := 4) (Nx2.of (Z := Cls w F [.obj pb0 [p0_to, gv12, gv14, gv16, gv18, .int .i64 gx21] 50, .sl p0_to 25 1 (zr svRow q0_to a0_to), .ss (zs (svSd 3 1 I) q0_to a0_to), .sl gv12 3 1 (gl13.map I), .sl gv16 3 1 (gl17.map I), .sl gv18 25 1 (zr svRow gq20 gl19), .ss (zs (svSd 3 1 I) gq20 gl19)]) [] (by kernel_rfl) rfl (Zc.on (fun _ hw => hw.sel [0, 1, 2, 3, 5, 6, 7] (by decide) rfl) (Zc.fin (fun _ hw => hw)))) rfl rfl rfl (Y.move rfl) ?_
       refine V2.y (i := 5) (Nx2.of (Z := Cls w F [.obj pb0 [p0_to, gv12, gv14, gv16, gv18, .int .i64 gx21] 50, .sl p0_to 25 1 (zr svRow q0_to a0_to), .ss (zs (svSd 3 1 I) q0_to a0_to), .sl gv12 3 1 (gl13.map I), .sl gv16 3 1 (gl17.map I), .sl gv18 25 1 (zr svRow gq20 gl19), .ss (zs (svSd 3 1 I) gq20 gl19)]) [] (by kernel_rfl) rfl (Zc.on (fun _ hw => hw.sel [0, 1, 2, 3, 5, 6, 7] (by decide) rfl) (Zc.fin (fun _ hw => hw)))) rfl rfl rfl (Y.move rfl) ?_
       refine V2.nilc (i := 6) (Nx2.of (Z := Cls w F [.obj pb0 [p0_to, gv12, gv14, gv16, gv18, .int .i64 gx21] 50, .sl p0_to 25 1 (zr svRow q0_to a0_to), .ss (zs (svSd 3 1 I) q0_to a0_to), .sl gv12 3 1 (gl13.map I), .sl gv16 3 1 (gl17.map I), .sl gv18 25 1 (zr svRow gq20 gl19), .ss (zs (svSd 3 1 I) gq20 gl19)]) [] (by kernel_rfl) rfl (Zc.on (fun _ hw => hw.sel [0, 1, 2, 3, 5, 6, 7] (by decide) rfl) (Zc.fin (fun _ hw => hw)))) rfl rfl rfl ?_
       refine V2.y (i := 7) (Nx2.of (Z := Cls w F [.obj pb0 [p0_to, gv12, gv14, gv16, gv18, .int .i64 gx21] 50, .sl p0_to 25 1 (zr svRow q0_to a0_to), .ss (zs (svSd 3 1 I) q0_to a0_to), .sl gv12 3 1 (gl13.map I), .sl gv16 3 1 (gl17.map I), .sl gv18 25 1 (zr svRow gq20 gl19), .ss (zs (svSd 3 1 I) gq20 gl19)]) [] (by kernel_rfl) rfl (Zc.on (fun _ hw => hw.sel [0, 1, 2, 3, 5, 6, 7] (by decide) rfl) (Zc.fin (fun _ hw => hw)))) rfl rfl rfl (Y.fieldP fd50_2 rfl) ?_
       refine V2.y (i := 8) (Nx2.of (Z := Cls w F [.obj pb0 [p0_to, gv12, gv14, gv16, gv18, .int .i64 gx21] 50, .sl p0_to 25 1 (zr svRow q0_to a0_to), .ss (zs (svSd 3 1 I) q0_to a0_to), .sl gv12 3 1 (gl13.map I), .sl gv16 3 1 (gl17.map I), .sl gv18 25 1 (zr svRow gq20 gl19), .ss (zs (svSd 3 1 I) gq20 gl19)]) [] (by kernel_rfl) rfl (Zc.on (fun _ hw => hw.sel [0, 1, 2, 3, 5, 6, 7] (by decide) rfl) (Zc.fin (fun _ hw => hw)))) rfl rfl rfl (Y.loadP (i := 0) ag25 rfl rfl rfl) ?_
       refine V2.y (i := 9) (Nx2.of (Z := Cls w F [.obj pb0 [p0_to, gv12, gv14, gv16, gv18, .int .i64 gx21] 50, .sl p0_to 25 1 (zr svRow q0_to a0_to), .ss (zs (svSd 3 1 I) q0_to a0_to), .sl gv12 3 1 (gl13.map I), .sl gv16 3 1 (gl17.map I), .sl gv18 25 1 (zr svRow gq20 gl19), .ss (zs (svSd 3 1 I) gq20 gl19)]) [] (by kernel_rfl) rfl (Zc.on (fun _ hw => hw.sel [0, 1, 2, 3, 5, 6, 7] (by decide) rfl) (Zc.fin (fun _ hw => hw)))) rfl rfl rfl (Y.move rfl) ?_
       refine V2.m (i := 10) (V' := fun _ => el gv14 (a1.toNat * 1)) h (Nx2.of (Z := Cls w F [.obj pb0 [p0_to, gv12, gv14, gv16, gv18, .int .i64 gx21] 50, .sl p0_to 25 1 (zr svRow q0_to a0_to), .ss (zs (svSd 3 1 I) q0_to a0_to), .sl gv12 3 1 (gl13.map I), .sl gv14 3 1 (gl15.map I), .sl gv16 3 1 (gl17.map I), .sl gv18 25 1 (zr svRow gq20 gl19), .ss (zs (svSd 3 1 I) gq20 gl19)]) [21] (by kernel_rfl) rfl (Zc.at1 (fun _ hw => hw))) rfl rfl rfl (Y.indexM (g := I) (l := gl15) Try.underlying25 sz3 rfl rfl (fun w hw => As.at_ (hw.get (i := 4) rfl))) (fun x42 ex42 h => ?_)
       refine V2.y (i := 11) (Nx2.of (Z := Cls w F [.obj pb0 [p0_to, gv12, gv14, gv16, gv18, .int .i64 gx21] 50, .sl p0_to 25 1 (zr svRow q0_to a0_to), .ss (zs (svSd 3 1 I) q0_to a0_to), .sl gv12 3 1 (gl13.map I), .sl gv14 3 1 (gl15.map I), .sl gv16 3 1 (gl17.map I), .sl gv18 25 1 (zr svRow gq20 gl19), .ss (zs (svSd 3 1 I) gq20 gl19)]) [21] (by kernel_rfl) rfl (Zc.at1 (fun _ hw => hw))) rfl rfl rfl (Y.loadE1 (u := .int .i64 x42) ag3 rfl (fun w hw => As.at_ (hw.get (i := 4) rfl)) (idx_map ex42)) ?_
       refine V2.y (i := 12) (Nx2.of (Z := Cls w F [.obj pb0 [p0_to, gv12, gv14, gv16, gv18, .int .i64 gx21] 50, .sl p0_to 25 1 (zr svRow q0_to a0_to), .ss (zs (svSd 3 1 I) q0_to a0_to), .sl gv12 3 1 (gl13.map I), .sl gv16 3 1 (gl17.map I), .sl gv18 25 1 (zr svRow gq20 gl19), .ss (zs (svSd 3 1 I) gq20 gl19)]) [] (by kernel_rfl) rfl (Zc.on (fun _ hw => hw.sel [0, 1, 2, 3, 5, 6, 7] (by decide) rfl) (Zc.fin (fun _ hw => hw)))) rfl rfl rfl (Y.move rfl) ?_
       refine V2.nilc (i := 13) (Nx2.of (Z := Cls w F [.obj pb0 [p0_to, gv12, gv14, gv16, gv18, .int .i64 gx21] 50, .sl p0_to 25 1 (zr svRow q0_to a0_to), .ss (zs (svSd 3 1 I) q0_to a0_to), .sl gv12 3 1 (gl13.map I), .sl gv16 3 1 (gl17.map I), .sl gv18 25 1 (zr svRow gq20 gl19), .ss (zs (svSd 3 1 I) gq20 gl19)]) [] (by kernel_rfl) rfl (Zc.on (fun _ hw => hw.sel [0, 1, 2, 3, 5, 6, 7] (by decide) rfl) (Zc.fin (fun _ hw => hw)))) rfl rfl rfl ?_
       refine V2.y (i := 14) (Nx2.of (Z := Cls w F [.obj pb0 [p0_to, gv12, gv14, gv16, gv18, .int .i64 gx21] 50, .sl p0_to 25 1 (zr svRow q0_to a0_to), .ss (zs (svSd 3 1 I) q0_to a0_to), .sl gv12 3 1 (gl13.map I), .sl gv16 3 1 (gl17.map I), .sl gv18 25 1 (zr svRow gq20 gl19), .ss (zs (svSd 3 1 I) gq20 gl19)]) [] (by kernel_rfl) rfl (Zc.on (fun _ hw => hw.sel [0, 1, 2, 3, 5, 6, 7] (by decide) rfl) (Zc.fin (fun _ hw => hw)))) rfl rfl rfl (Y.fieldP fd50_1 rfl) ?_
       refine V2.y (i := 15) (Nx2.of (Z := Cls w F [.obj pb0 [p0_to, gv12, gv14, gv16, gv18, .int .i64 gx21] 50, .sl p0_to 25 1 (zr svRow q0_to a0_to), .ss (zs (svSd 3 1 I) q0_to a0_to), .sl gv12 3 1 (gl13.map I), .sl gv16 3 1 (gl17.map I), .sl gv18 25 1 (zr svRow gq20 gl19), .ss (zs (svSd 3 1 I) gq20 gl19)]) [] (by kernel_rfl) rfl (Zc.on (fun _ hw => hw.sel [0, 1, 2, 3, 5, 6, 7] (by decide) rfl) (Zc.fin (fun _ hw => hw)))) rfl rfl rfl (Y.loadP (i := 0) ag25 rfl rfl rfl) ?_
       refine V2.y (i := 16) (Nx2.of (Z := Cls w F [.obj pb0 [p0_to, gv12, gv14, gv16, gv18, .int .i64 gx21] 50, .sl p0_to 25 1 (zr svRow q0_to a0_to), .ss (zs (svSd 3 1 I) q0_to a0_to), .sl gv12 3 1 (gl13.map I), .sl gv16 3 1 (gl17.map I), .sl gv18 25 1 (zr svRow gq20 gl19), .ss (zs (svSd 3 1 I) gq20 gl19)]) [] (by kernel_rfl) rfl (Zc.on (fun _ hw => hw.sel [0, 1, 2, 3, 5, 6, 7] (by decide) rfl) (Zc.fin (fun _ hw => hw)))) rfl rfl rfl (Y.move rfl) ?_
       refine V2.m (i := 17) (V' := fun _ => el gv12 (x34.toNat * 1)) h (Nx2.of (Z := Cls w F [.obj pb0 [p0_to, gv12, gv14, gv16, gv18, .int .i64 gx21] 50, .sl p0_to 25 1 (zr svRow q0_to a0_to), .ss (zs (svSd 3 1 I) q0_to a0_to), .sl gv12 3 1 (gl13.map I), .sl gv16 3 1 (gl17.map I), .sl gv18 25 1 (zr svRow gq20 gl19), .ss (zs (svSd 3 1 I) gq20 gl19)]) [] (by kernel_rfl) rfl (Zc.on (fun _ hw => hw.sel [0, 1, 2, 3, 5, 6, 7] (by decide) rfl) (Zc.fin (fun _ hw => hw)))) rfl rfl rfl (Y.indexM (g := I) (l := gl13) Try.underlying25 sz3 rfl rfl (fun w hw => As.at_ (hw.get (i := 3) rfl))) (fun x43 ex43 h => ?_)
       refine V2.y (i := 18) (Nx2.of (Z := Cls w F [.obj pb0 [p0_to, gv12, gv14, gv16, gv18, .int .i64 gx21] 50, .sl p0_to 25 1 (zr svRow q0_to a0_to), .ss (zs (svSd 3 1 I) q0_to a0_to), .sl gv12 3 1 (gl13.map I), .sl gv16 3 1 (gl17.map I), .sl gv18 25 1 (zr svRow gq20 gl19), .ss (zs (svSd 3 1 I) gq20 gl19)]) [] (by kernel_rfl) rfl (Zc.on (fun _ hw => hw.sel [0, 1, 2, 3, 5, 6, 7] (by decide) rfl) (Zc.fin (fun _ hw => hw)))) rfl rfl rfl (Y.loadE1 (u := .int .i64 x43) ag3 rfl (fun w hw => As.at_ (hw.get (i := 3) rfl)) (idx_map ex43)) ?_
       refine V2.y (i := 19) (Nx2.of (Z := Cls w F [.obj pb0 [p0_to, gv12, gv14, gv16, gv18, .int .i64 gx21] 50, .sl p0_to 25 1 (zr svRow q0_to a0_to), .ss (zs (svSd 3 1 I) q0_to a0_to), .sl gv12 3 1 (gl13.map I), .sl gv16 3 1 (gl17.map I), .sl gv18 25 1 (zr svRow gq20 gl19), .ss (zs (svSd 3 1 I) gq20 gl19)]) [] (by kernel_rfl) rfl (Zc.on (fun _ hw => hw.sel [0, 1, 2, 3, 5, 6, 7] (by decide) rfl) (Zc.fin (fun _ hw => hw)))) rfl rfl rfl (Y.min2 rfl rfl) ?_
       refine V2.m (i := 20) (V' := fun _ => el gv14 (a1.toNat * 1)) h (Nx2.of (Z := Cls w F [.obj pb0 [p0_to, gv12, gv14, gv16, gv18, .int .i64 gx21] 50, .sl p0_to 25 1 (zr svRow q0_to a0_to), .ss (zs (svSd 3 1 I) q0_to a0_to), .sl gv12 3 1 (gl13.map I), .sl gv14 3 1 (gl15.map I), .sl gv16 3 1 (gl17.map I), .sl gv18 25 1 (zr svRow gq20 gl19), .ss (zs (svSd 3 1 I) gq20 gl19)]) [21] (by kernel_rfl) rfl (Zc.at1 (fun _ hw => hw))) rfl rfl rfl (Y.indexM (g := I) (l := gl15) Try.underlying25 sz3 rfl rfl (fun w hw => As.at_ (hw.get (i := 4) rfl))) (fun x44 ex44 h => ?_)
       refine V2.eff (i := 21) (by kernel_rfl) rfl ?_
       refine L.storeSlM (q := 4) (row := I) (vs := [.int .i64 (min x42 x43)]) (j := 0) (u1 := (min x42 x43)) h sz3 rfl rfl rfl rfl rfl (all1 rfl all0) rfl ex44 rfl rfl ?_
       intro l45 el45 h
       refine L.nil (E.toV2 (stC [] [] (Cls w F [.obj pb0 [p0_to, gv12, gv14, gv16, gv18, .int .i64 gx21] 50, .sl p0_to 25 1 (zr svRow q0_to a0_to), .ss (zs (svSd 3 1 I) q0_to a0_to), .sl gv12 3 1 (gl13.map I), .sl gv16 3 1 (gl17.map I), .sl gv18 25 1 (zr svRow gq20 gl19), .ss (zs (svSd 3 1 I) gq20 gl19)])) 21 (by kernel_rfl) (Sc.past rfl (Sc.stayD (fun _ hw => hw))) (Sc.atD (fun _ hw => hw.sel [0, 1, 2, 3, 5, 6, 7] (by decide) rfl)) ?_)
       refine V2.done (by kernel_rfl) ?_
       refine E.blockN (E.blockN (E.thenN (W.region (L.m (V := fun x46 => .int .i64 x46) h rfl (Y.addM rfl rfl) (fun x46 ex46 h => ?_)))))
       refine L.y rfl (Y.move rfl) ?_
       exact L.nil (E.againJ ⟨x46, gv12, gl13, gv14, l45, gv16, gl17, gv18, gl19, gq20, gx21, rfl, rfl, by rw [hg1]; exact h⟩ (Nat.lt_succ_self _) ⟨rfl, rfl, rfl, rfl, rfl, trivial⟩ (fun _ hw => hw))
     ·
      replace h := iteT h
      refine W.condT rfl ?_
      refine W.seq (W.region (L.y rfl (Y.move rfl) ?_))
      refine L.y rfl (Y.move rfl) ?_
      obtain ⟨l47, l48, l49, l50, x51, e52, h⟩ := bind5S h
      refine L.doesP (A := [.obj pb0 [p0_to, gv12, gv14, gv16, gv18, .int .i64 gx21] 50, .sl p0_to 25 1 (zr svRow q0_to a0_to), .ss (zs (svSd 3 1 I) q0_to a0_to), .sl gv12 3 1 (gl13.map I), .sl gv14 3 1 (gl15.map I), .sl gv16 3 1 (gl17.map I), .sl gv18 25 1 (zr svRow gq20 gl19), .ss (zs (svSd 3 1 I) gq20 gl19)]) (M := []) rfl en22 rfl (fun w' hw => ih a0_to gl13 gl15 gl17 gl19 gx21 x34 pb0 p0_to q0_to gv12 gv14 gv16 gv18 gq20 w' _ e52 _ hw.lend) ?_
      rintro _ _ ⟨v53, v54, v55, v56, q57, rfl, rfl⟩
      refine L.to (D := Cls w F [.obj pb0 [p0_to, v53, v54, v55, v56, .int .i64 x51] 50, .sl p0_to 25 1 (zr svRow q0_to a0_to), .ss (zs (svSd 3 1 I) q0_to a0_to), .sl v53 3 1 (l47.map I), .sl v54 3 1 (l48.map I), .sl v55 3 1 (l49.map I), .sl v56 25 1 (zr svRow q57 l50), .ss (zs (svSd 3 1 I) q57 l50)]) (fun _ hw => hw) ?_
      refine L.nil (E.thenN (W.drawn2 (k := 22) (stC [[21]] [Cls w F [.obj pb0 [p0_to, v53, v54, v55, v56, .int .i64 x51] 50, .sl p0_to 25 1 (zr svRow q0_to a0_to), .ss (zs (svSd 3 1 I) q0_to a0_to), .sl v53 3 1 (l47.map I), .sl v54 3 1 (l48.map I), .sl v55 3 1 (l49.map I), .sl v56 25 1 (zr svRow q57 l50), .ss (zs (svSd 3 1 I) q57 l50)]] (Cls w F [.obj pb0 [p0_to, v53, v54, v55, v56, .int .i64 x51] 50, .sl p0_to 25 1 (zr svRow q0_to a0_to), .ss (zs (svSd 3 1 I) q0_to a0_to), .sl v53 3 1 (l47.map I), .sl v55 3 1 (l49.map I), .sl v56 25 1 (zr svRow q57 l50), .ss (zs (svSd 3 1 I) q57 l50)])) rfl mixed (fun _ hw => hw.drew) (Sc.now (by kernel_rfl) (fun _ hw => hw)) ?_))
      refine V2.y (i := 0) (Nx2.of (Z := Cls w F [.obj pb0 [p0_to, v53, v54, v55, v56, .int .i64 x51] 50, .sl p0_to 25 1 (zr svRow q0_to a0_to), .ss (zs (svSd 3 1 I) q0_to a0_to), .sl v53 3 1 (l47.map I), .sl v55 3 1 (l49.map I), .sl v56 25 1 (zr svRow q57 l50), .ss (zs (svSd 3 1 I) q57 l50)]) [] (by kernel_rfl) rfl (Zc.on (fun _ hw => hw.sel [0, 1, 2, 3, 5, 6, 7] (by decide) rfl) (Zc.fin (fun _ hw => hw)))) rfl rfl rfl (Y.move rfl) ?_
      refine V2.nilc (i := 1) (Nx2.of (Z := Cls w F [.obj pb0 [p0_to, v53, v54, v55, v56, .int .i64 x51] 50, .sl p0_to 25 1 (zr svRow q0_to a0_to), .ss (zs (svSd 3 1 I) q0_to a0_to), .sl v53 3 1 (l47.map I), .sl v55 3 1 (l49.map I), .sl v56 25 1 (zr svRow q57 l50), .ss (zs (svSd 3 1 I) q57 l50)]) [] (by kernel_rfl) rfl (Zc.on (fun _ hw => hw.sel [0, 1, 2, 3, 5, 6, 7] (by decide) rfl) (Zc.fin (fun _ hw => hw)))) rfl rfl rfl ?_
      refine V2.y (i := 2) (Nx2.of (Z := Cls w F [.obj pb0 [p0_to, v53, v54, v55, v56, .int .i64 x51] 50, .sl p0_to 25 1 (zr svRow q0_to a0_to), .ss (zs (svSd 3 1 I) q0_to a0_to), .sl v53 3 1 (l47.map I), .sl v55 3 1 (l49.map I), .sl v56 25 1 (zr svRow q57 l50), .ss (zs (svSd 3 1 I) q57 l50)]) [] (by kernel_rfl) rfl (Zc.on (fun _ hw => hw.sel [0, 1, 2, 3, 5, 6, 7] (by decide) rfl) (Zc.fin (fun _ hw => hw)))) rfl rfl rfl (Y.fieldP fd50_2 rfl) ?_
      refine V2.y (i := 3) (Nx2.of (Z := Cls w F [.obj pb0 [p0_to, v53, v54, v55, v56, .int .i64 x51] 50, .sl p0_to 25 1 (zr svRow q0_to a0_to), .ss (zs (svSd 3 1 I) q0_to a0_to), .sl v53 3 1 (l47.map I), .sl v55 3 1 (l49.map I), .sl v56 25 1 (zr svRow q57 l50), .ss (zs (svSd 3 1 I) q57 l50)]) [] (by kernel_rfl) rfl (Zc.on (fun _ hw => hw.sel [0, 1, 2, 3, 5, 6, 7] (by decide) rfl) (Zc.fin (fun _ hw => hw)))) rfl rfl rfl (Y.loadP (i := 0) ag25 rfl rfl rfl) ?_
      refine V2.y (i := 4) (Nx2.of (Z := Cls w F [.obj pb0 [p0_to, v53, v54, v55, v56, .int .i64 x51] 50, .sl p0_to 25 1 (zr svRow q0_to a0_to), .ss (zs (svSd 3 1 I) q0_to a0_to), .sl v53 3 1 (l47.map I), .sl v55 3 1 (l49.map I), .sl v56 25 1 (zr svRow q57 l50), .ss (zs (svSd 3 1 I) q57 l50)]) [] (by kernel_rfl) rfl (Zc.on (fun _ hw => hw.sel [0, 1, 2, 3, 5, 6, 7] (by decide) rfl) (Zc.fin (fun _ hw => hw)))) rfl rfl rfl (Y.move rfl) ?_
      refine V2.y (i := 5) (Nx2.of (Z := Cls w F [.obj pb0 [p0_to, v53, v54, v55, v56, .int .i64 x51] 50, .sl p0_to 25 1 (zr svRow q0_to a0_to), .ss (zs (svSd 3 1 I) q0_to a0_to), .sl v53 3 1 (l47.map I), .sl v55 3 1 (l49.map I), .sl v56 25 1 (zr svRow q57 l50), .ss (zs (svSd 3 1 I) q57 l50)]) [] (by kernel_rfl) rfl (Zc.on (fun _ hw => hw.sel [0, 1, 2, 3, 5, 6, 7] (by decide) rfl) (Zc.fin (fun _ hw => hw)))) rfl rfl rfl (Y.move rfl) ?_
      refine V2.nilc (i := 6) (Nx2.of (Z := Cls w F [.obj pb0 [p0_to, v53, v54, v55, v56, .int .i64 x51] 50, .sl p0_to 25 1 (zr svRow q0_to a0_to), .ss (zs (svSd 3 1 I) q0_to a0_to), .sl v53 3 1 (l47.map I), .sl v55 3 1 (l49.map I), .sl v56 25 1 (zr svRow q57 l50), .ss (zs (svSd 3 1 I) q57 l50)]) [] (by kernel_rfl) rfl (Zc.on (fun _ hw => hw.sel [0, 1, 2, 3, 5, 6, 7] (by decide) rfl) (Zc.fin (fun _ hw => hw)))) rfl rfl rfl ?_
      refine V2.y (i := 7) (Nx2.of (Z := Cls w F [.obj pb0 [p0_to, v53, v54, v55, v56, .int .i64 x51] 50, .sl p0_to 25 1 (zr svRow q0_to a0_to), .ss (zs (svSd 3 1 I) q0_to a0_to), .sl v53 3 1 (l47.map I), .sl v55 3 1 (l49.map I), .sl v56 25 1 (zr svRow q57 l50), .ss (zs (svSd 3 1 I) q57 l50)]) [] (by kernel_rfl) rfl (Zc.on (fun _ hw => hw.sel [0, 1, 2, 3, 5, 6, 7] (by decide) rfl) (Zc.fin (fun _ hw => hw)))) rfl rfl rfl (Y.fieldP fd50_2 rfl) ?_
      refine V2.y (i := 8) (Nx2.of (Z := Cls w F [.obj pb0 [p0_to, v53, v54, v55, v56, .int .i64 x51] 50, .sl p0_to 25 1 (zr svRow q0_to a0_to), .ss (zs (svSd 3 1 I) q0_to a0_to), .sl v53 3 1 (l47.map I), .sl v55 3 1 (l49.map I), .sl v56 25 1 (zr svRow q57 l50), .ss (zs (svSd 3 1 I) q57 l50)]) [] (by kernel_rfl) rfl (Zc.on (fun _ hw => hw.sel [0, 1, 2, 3, 5, 6, 7] (by decide) rfl) (Zc.fin (fun _ hw => hw)))) rfl rfl rfl (Y.loadP (i := 0) ag25 rfl rfl rfl) ?_
      refine V2.y (i := 9) (Nx2.of (Z := Cls w F [.obj pb0 [p0_to, v53, v54, v55, v56, .int .i64 x51] 50, .sl p0_to 25 1 (zr svRow q0_to a0_to), .ss (zs (svSd 3 1 I) q0_to a0_to), .sl v53 3 1 (l47.map I), .sl v55 3 1 (l49.map I), .sl v56 25 1 (zr svRow q57 l50), .ss (zs (svSd 3 1 I) q57 l50)]) [] (by kernel_rfl) rfl (Zc.on (fun _ hw => hw.sel [0, 1, 2, 3, 5, 6, 7] (by decide) rfl) (Zc.fin (fun _ hw => hw)))) rfl rfl rfl (Y.move rfl) ?_
      refine V2.m (i := 10) (V' := fun _ => el v54 (a1.toNat * 1)) h (Nx2.of (Z := Cls w F [.obj pb0 [p0_to, v53, v54, v55, v56, .int .i64 x51] 50, .sl p0_to 25 1 (zr svRow q0_to a0_to), .ss (zs (svSd 3 1 I) q0_to a0_to), .sl v53 3 1 (l47.map I), .sl v54 3 1 (l48.map I), .sl v55 3 1 (l49.map I), .sl v56 25 1 (zr svRow q57 l50), .ss (zs (svSd 3 1 I) q57 l50)]) [21] (by kernel_rfl) rfl (Zc.at1 (fun _ hw => hw))) rfl rfl rfl (Y.indexM (g := I) (l := l48) Try.underlying25 sz3 rfl rfl (fun w hw => As.at_ (hw.get (i := 4) rfl))) (fun x62 ex62 h => ?_)
      refine V2.y (i := 11) (Nx2.of (Z := Cls w F [.obj pb0 [p0_to, v53, v54, v55, v56, .int .i64 x51] 50, .sl p0_to 25 1 (zr svRow q0_to a0_to), .ss (zs (svSd 3 1 I) q0_to a0_to), .sl v53 3 1 (l47.map I), .sl v54 3 1 (l48.map I), .sl v55 3 1 (l49.map I), .sl v56 25 1 (zr svRow q57 l50), .ss (zs (svSd 3 1 I) q57 l50)]) [21] (by kernel_rfl) rfl (Zc.at1 (fun _ hw => hw))) rfl rfl rfl (Y.loadE1 (u := .int .i64 x62) ag3 rfl (fun w hw => As.at_ (hw.get (i := 4) rfl)) (idx_map ex62)) ?_
      refine V2.y (i := 12) (Nx2.of (Z := Cls w F [.obj pb0 [p0_to, v53, v54, v55, v56, .int .i64 x51] 50, .sl p0_to 25 1 (zr svRow q0_to a0_to), .ss (zs (svSd 3 1 I) q0_to a0_to), .sl v53 3 1 (l47.map I), .sl v55 3 1 (l49.map I), .sl v56 25 1 (zr svRow q57 l50), .ss (zs (svSd 3 1 I) q57 l50)]) [] (by kernel_rfl) rfl (Zc.on (fun _ hw => hw.sel [0, 1, 2, 3, 5, 6, 7] (by decide) rfl) (Zc.fin (fun _ hw => hw)))) rfl rfl rfl (Y.move rfl) ?_
      refine V2.nilc (i := 13) (Nx2.of (Z := Cls w F [.obj pb0 [p0_to, v53, v54, v55, v56, .int .i64 x51] 50, .sl p0_to 25 1 (zr svRow q0_to a0_to), .ss (zs (svSd 3 1 I) q0_to a0_to), .sl v53 3 1 (l47.map I), .sl v55 3 1 (l49.map I), .sl v56 25 1 (zr svRow q57 l50), .ss (zs (svSd 3 1 I) q57 l50)]) [] (by kernel_rfl) rfl (Zc.on (fun _ hw => hw.sel [0, 1, 2, 3, 5, 6, 7] (by decide) rfl) (Zc.fin (fun _ hw => hw)))) rfl rfl rfl ?_
      refine V2.y (i := 14) (Nx2.of (Z := Cls w F [.obj pb0 [p0_to, v53, v54, v55, v56, .int .i64 x51] 50, .sl p0_to 25 1 (zr svRow q0_to a0_to), .ss (zs (svSd 3 1 I) q0_to a0_to), .sl v53 3 1 (l47.map I), .sl v55 3 1 (l49.map I), .sl v56 25 1 (zr svRow q57 l50), .ss (zs (svSd 3 1 I) q57 l50)]) [] (by kernel_rfl) rfl (Zc.on (fun _ hw => hw.sel [0, 1, 2, 3, 5, 6, 7] (by decide) rfl) (Zc.fin (fun _ hw => hw)))) rfl rfl rfl (Y.fieldP fd50_2 rfl) ?_
      refine V2.y (i := 15) (Nx2.of (Z := Cls w F [.obj pb0 [p0_to, v53, v54, v55, v56, .int .i64 x51] 50, .sl p0_to 25 1 (zr svRow q0_to a0_to), .ss (zs (svSd 3 1 I) q0_to a0_to), .sl v53 3 1 (l47.map I), .sl v55 3 1 (l49.map I), .sl v56 25 1 (zr svRow q57 l50), .ss (zs (svSd 3 1 I) q57 l50)]) [] (by kernel_rfl) rfl (Zc.on (fun _ hw => hw.sel [0, 1, 2, 3, 5, 6, 7] (by decide) rfl) (Zc.fin (fun _ hw => hw)))) rfl rfl rfl (Y.loadP (i := 0) ag25 rfl rfl rfl) ?_
      refine V2.y (i := 16) (Nx2.of (Z := Cls w F [.obj pb0 [p0_to, v53, v54, v55, v56, .int .i64 x51] 50, .sl p0_to 25 1 (zr svRow q0_to a0_to), .ss (zs (svSd 3 1 I) q0_to a0_to), .sl v53 3 1 (l47.map I), .sl v55 3 1 (l49.map I), .sl v56 25 1 (zr svRow q57 l50), .ss (zs (svSd 3 1 I) q57 l50)]) [] (by kernel_rfl) rfl (Zc.on (fun _ hw => hw.sel [0, 1, 2, 3, 5, 6, 7] (by decide) rfl) (Zc.fin (fun _ hw => hw)))) rfl rfl rfl (Y.move rfl) ?_
      refine V2.m (i := 17) (V' := fun _ => el v54 (x34.toNat * 1)) h (Nx2.of (Z := Cls w F [.obj pb0 [p0_to, v53, v54, v55, v56, .int .i64 x51] 50, .sl p0_to 25 1 (zr svRow q0_to a0_to), .ss (zs (svSd 3 1 I) q0_to a0_to), .sl v53 3 1 (l47.map I), .sl v54 3 1 (l48.map I), .sl v55 3 1 (l49.map I), .sl v56 25 1 (zr svRow q57 l50), .ss (zs (svSd 3 1 I) q57 l50)]) [21] (by kernel_rfl) rfl (Zc.at1 (fun _ hw => hw))) rfl rfl rfl (Y.indexM (g := I) (l := l48) Try.underlying25 sz3 rfl rfl (fun w hw => As.at_ (hw.get (i := 4) rfl))) (fun x63 ex63 h => ?_)
      refine V2.y (i := 18) (Nx2.of (Z := Cls w F [.obj pb0 [p0_to, v53, v54, v55, v56, .int .i64 x51] 50, .sl p0_to 25 1 (zr svRow q0_to a0_to), .ss (zs (svSd 3 1 I) q0_to a0_to), .sl v53 3 1 (l47.map I), .sl v54 3 1 (l48.map I), .sl v55 3 1 (l49.map I), .sl v56 25 1 (zr svRow q57 l50), .ss (zs (svSd 3 1 I) q57 l50)]) [21] (by kernel_rfl) rfl (Zc.at1 (fun _ hw => hw))) rfl rfl rfl (Y.loadE1 (u := .int .i64 x63) ag3 rfl (fun w hw => As.at_ (hw.get (i := 4) rfl)) (idx_map ex63)) ?_
      refine V2.y (i := 19) (Nx2.of (Z := Cls w F [.obj pb0 [p0_to, v53, v54, v55, v56, .int .i64 x51] 50, .sl p0_to 25 1 (zr svRow q0_to a0_to), .ss (zs (svSd 3 1 I) q0_to a0_to), .sl v53 3 1 (l47.map I), .sl v55 3 1 (l49.map I), .sl v56 25 1 (zr svRow q57 l50), .ss (zs (svSd 3 1 I) q57 l50)]) [] (by kernel_rfl) rfl (Zc.on (fun _ hw => hw.sel [0, 1, 2, 3, 5, 6, 7] (by decide) rfl) (Zc.fin (fun _ hw => hw)))) rfl rfl rfl (Y.min2 rfl rfl) ?_
      refine V2.m (i := 20) (V' := fun _ => el v54 (a1.toNat * 1)) h (Nx2.of (Z := Cls w F [.obj pb0 [p0_to, v53, v54, v55, v56, .int .i64 x51] 50, .sl p0_to 25 1 (zr svRow q0_to a0_to), .ss (zs (svSd 3 1 I) q0_to a0_to), .sl v53 3 1 (l47.map I), .sl v54 3 1 (l48.map I), .sl v55 3 1 (l49.map I), .sl v56 25 1 (zr svRow q57 l50), .ss (zs (svSd 3 1 I) q57 l50)]) [21] (by kernel_rfl) rfl (Zc.at1 (fun _ hw => hw))) rfl rfl rfl (Y.indexM (g := I) (l := l48) Try.underlying25 sz3 rfl rfl (fun w hw => As.at_ (hw.get (i := 4) rfl))) (fun x64 ex64 h => ?_)
      refine V2.eff (i := 21) (by kernel_rfl) rfl ?_
      refine L.storeSlM (q := 4) (row := I) (vs := [.int .i64 (min x62 x63)]) (j := 0) (u1 := (min x62 x63)) h sz3 rfl rfl rfl rfl rfl (all1 rfl all0) rfl ex64 rfl rfl ?_
      intro l65 el65 h
      refine L.nil (E.toV2 (stC [] [] (Cls w F [.obj pb0 [p0_to, v53, v54, v55, v56, .int .i64 x51] 50, .sl p0_to 25 1 (zr svRow q0_to a0_to), .ss (zs (svSd 3 1 I) q0_to a0_to), .sl v53 3 1 (l47.map I), .sl v55 3 1 (l49.map I), .sl v56 25 1 (zr svRow q57 l50), .ss (zs (svSd 3 1 I) q57 l50)])) 21 (by kernel_rfl) (Sc.past rfl (Sc.stayD (fun _ hw => hw))) (Sc.atD (fun _ hw => hw.sel [0, 1, 2, 3, 5, 6, 7] (by decide) rfl)) ?_)
      refine V2.done (by kernel_rfl) ?_
      refine E.blockN (E.blockN (E.thenN (W.region (L.m (V := fun x66 => .int .i64 x66) h rfl (Y.addM rfl rfl) (fun x66 ex66 h => ?_)))))
      refine L.y rfl (Y.move rfl) ?_
      exact L.nil (E.againJ ⟨x66, v53, l47, v54, l65, v55, l49, v56, l50, q57, x51, rfl, rfl, by rw [hg1]; exact h⟩ (Nat.lt_succ_self _) ⟨rfl, rfl, rfl, rfl, rfl, trivial⟩ (fun _ hw => hw))
   ·
    refine L.nil (E.thenN (W.seq (W.condF rfl ?_)))
    exact W.exit (E.thenX (E.KLX (E.blockX (E.joinJ ⟨gv12, gl13, gv14, gl15, gv16, gl17, gv18, gl19, gq20, gx21, rfl, rfl, h⟩ ⟨rfl, rfl, trivial⟩ (fun _ hw => hw)))))
  ·
   rintro _ _ ⟨gv1, gl2, gv3, gl4, gv5, gl6, gv7, gl8, gq9, gx10, rfl, rfl, h⟩
   rw [m22_graph_walker_visit_K1] at h
   refine W.seq (W.quietC mixed (by kernel_rfl) (fun _ hw => hw.drew) (fun hC => ?_))
   refine U.y rfl (Y.move rfl) ?_
   refine U.y rfl (Y.nilCheck rfl) ?_
   refine U.y rfl (Y.fieldP fd50_2 rfl) ?_
   refine U.y rfl (Y.loadP (i := 0) ag25 rfl rfl rfl) ?_
   refine U.y rfl (Y.move rfl) ?_
   refine U.m (V := fun _ => el gv3 (a1.toNat * 1)) h rfl (Y.indexM (g := I) (l := gl4) Try.underlying25 sz3 rfl rfl (fun w hw => As.at_ (hw.get (i := 4) rfl))) (fun x15 ex15 h => ?_)
   refine U.y rfl (Y.loadE1 (u := .int .i64 x15) ag3 rfl (fun w hw => As.at_ (hw.get (i := 4) rfl)) (idx_map ex15)) ?_
   refine U.y rfl (Y.move rfl) ?_
   refine U.y rfl (Y.nilCheck rfl) ?_
   refine U.y rfl (Y.fieldP fd50_1 rfl) ?_
   refine U.y rfl (Y.loadP (i := 0) ag25 rfl rfl rfl) ?_
   refine U.y rfl (Y.move rfl) ?_
   refine U.m (V := fun _ => el gv1 (a1.toNat * 1)) h rfl (Y.indexM (g := I) (l := gl2) Try.underlying25 sz3 rfl rfl (fun w hw => As.at_ (hw.get (i := 3) rfl))) (fun x16 ex16 h => ?_)
   refine U.y rfl (Y.loadE1 (u := .int .i64 x16) ag3 rfl (fun w hw => As.at_ (hw.get (i := 3) rfl)) (idx_map ex16)) ?_
   refine U.ite h rfl (Y.eql rfl rfl) (fun c17 h => ?_) (fun c17 h => ?_)
   ·
    refine U.nil (E.thenN (W.condT rfl ?_))
    refine W.seq (W.region (L.y rfl (Y.move rfl) ?_))
    refine L.y rfl (Y.nilCheck rfl) ?_
    refine L.y rfl (Y.fieldP fd50_3 rfl) ?_
    refine L.y rfl (Y.loadP (i := 0) ag25 rfl rfl rfl) ?_
    refine L.y rfl (Y.move rfl) ?_
    obtain ⟨x18, e19, h⟩ := bind1S h
    refine L.y rfl (Y.does en21 rfl (fun w' hw => (w21_slices_Index_int gl6 a1 gv5 w' _ e19 (As.at_ (hw.get (i := 5) rfl))).mono (fun _ _ h => h.1))) ?_
    refine L.y rfl (Y.assign rfl) ?_
    refine L.nil (E.thenN (W.seq (W.region (L.y rfl (Y.move rfl) ?_))))
    refine L.y rfl (Y.nilCheck rfl) ?_
    refine L.y rfl (Y.fieldP fd50_3 rfl) ?_
    refine L.y rfl (Y.loadP (i := 0) ag25 rfl rfl rfl) ?_
    refine L.y rfl (Y.move rfl) ?_
    refine L.m (V := fun _ => dropv gv5 x18.toNat 1) h rfl (Y.dropM (g := I) Try.underlying25 sz3 rfl rfl (fun w hw => As.at_ (hw.get (i := 5) rfl))) (fun l20 el20 h => ?_)
    obtain ⟨l21, e23, h⟩ := bind1S h
    refine L.does rfl en25 rfl (fun w' hw => w25_slices_Clone_int l20 (dropv gv5 x18.toNat 1) w' _ e23 (((As.at_ (hw.get (i := 5) rfl)).dropM el20))) ?_
    rintro v22 _ ⟨_, rfl, rfl⟩
    refine L.y rfl (Y.assign rfl) ?_
    refine L.nil (E.thenN (W.seq (W.region (L.y rfl (Y.move rfl) ?_))))
    refine L.sortMD (i := 0) (l := l21) h wSort rfl en31 rfl rfl ?_
    intro l24 el24 h
    refine L.nil (E.thenN (W.seq (W.region (L.y rfl (Y.move rfl) ?_))))
    refine L.y rfl (Y.move rfl) ?_
    refine L.y rfl (Y.nilCheck rfl) ?_
    refine L.y rfl (Y.fieldP fd50_4 rfl) ?_
    refine L.y rfl (Y.loadP (i := 1) ag28 rfl rfl rfl) ?_
    refine L.y rfl (Y.move rfl) ?_
    refine L.litOneC rfl Try.underlying28 eL25 rfl (fun w hw => At.cells1 (As.at_ (hw.get (i := 0) rfl))) ?_
    intro b26
    refine L.to (D := Cls w F [.sl v22 3 1 (l24.map I), .sl (sv b26 1) 25 1 (zr svRow (fun _ => [v22]) ([l24])), .obj pb0 [p0_to, gv1, gv3, gv5, gv7, .int .i64 gx10] 50, .sl p0_to 25 1 (zr svRow q0_to a0_to), .ss (zs (svSd 3 1 I) q0_to a0_to), .sl gv1 3 1 (gl2.map I), .sl gv3 3 1 (gl4.map I), .sl gv5 3 1 (gl6.map I), .sl gv7 25 1 (zr svRow gq9 gl8), .ss (zs (svSd 3 1 I) gq9 gl8)]) (fun _ hw => hw.sel [1, 0, 2, 3, 4, 5, 6, 7, 8, 9] (by decide) rfl) ?_
    refine L.gath [⟨v22, 3, 1, l24.map I⟩] ?_
    refine L.to (D := Cls w F [.ss (zs (svSd 3 1 I) (fun _ => [v22]) ([l24])), .sl (sv b26 1) 25 1 (zr svRow (fun _ => [v22]) ([l24])), .obj pb0 [p0_to, gv1, gv3, gv5, gv7, .int .i64 gx10] 50, .sl p0_to 25 1 (zr svRow q0_to a0_to), .ss (zs (svSd 3 1 I) q0_to a0_to), .sl gv1 3 1 (gl2.map I), .sl gv3 3 1 (gl4.map I), .sl gv5 3 1 (gl6.map I), .sl gv7 25 1 (zr svRow gq9 gl8), .ss (zs (svSd 3 1 I) gq9 gl8)]) (fun _ hw => hw) ?_
    refine L.to (D := Cls w F [.sl gv7 25 1 (zr svRow gq9 gl8), .ss (zs (svSd 3 1 I) gq9 gl8), .sl (sv b26 1) 25 1 (zr svRow (fun _ => [v22]) ([l24])), .ss (zs (svSd 3 1 I) (fun _ => [v22]) ([l24])), .obj pb0 [p0_to, gv1, gv3, gv5, gv7, .int .i64 gx10] 50, .sl p0_to 25 1 (zr svRow q0_to a0_to), .ss (zs (svSd 3 1 I) q0_to a0_to), .sl gv1 3 1 (gl2.map I), .sl gv3 3 1 (gl4.map I), .sl gv5 3 1 (gl6.map I)]) (fun _ hw => hw.sel [8, 9, 1, 0, 2, 3, 4, 5, 6, 7] (by decide) rfl) ?_
    refine L.appZ (row := svRow) (sds := (svSd 3 1 I)) (vs := gq9) (vs2 := (fun _ => [v22])) (l := gl8) (l2 := [l24]) h rfl Try.underlying28 eL25 rfl rfl rfl (fun w hw => plain_zr plz_sv (As.ssOne (hw.get (i := 3) rfl))) ?_
    intro v28 q29 l27 el27 h
    refine L.y rfl (Y.nilCheck rfl) ?_
    refine L.y rfl (Y.fieldP fd50_4 rfl) ?_
    refine L.storeV (i := 2) sz28 rfl rfl (fun _ hw => (As.at_ (hw.get (i := 0) rfl)).one) rfl (Nat.le_of_ble_eq_true rfl) ?_
    refine L.nil (E.thenN (W.region (L.y rfl (Y.move rfl) ?_)))
    refine L.y rfl (Y.move rfl) ?_
    refine L.y rfl (Y.nilCheck rfl) ?_
    refine L.y rfl (Y.fieldP fd50_3 rfl) ?_
    refine L.y rfl (Y.loadP (i := 2) ag25 rfl rfl rfl) ?_
    refine L.y rfl (Y.move rfl) ?_
    obtain ⟨l30, el30, h⟩ := bind1S h
    refine L.cutM (i := 7) (g := I) el30 rfl Try.underlying25 sz3 rfl rfl rfl (fun v31 => ?_)
    refine L.y rfl (Y.nilCheck rfl) ?_
    refine L.y rfl (Y.fieldP fd50_3 rfl) ?_
    refine L.storeV (i := 2) sz25 rfl rfl (fun _ hw => (As.at_ (hw.get (i := 7) rfl)).one) rfl (Nat.le_of_ble_eq_true rfl) ?_
    refine L.nil (E.end0 rfl (fun w1 hw => ?_))
    obtain rfl := Option.some.inj h
    exact ⟨_, _, rfl, ⟨_, _, _, _, _, rfl, rfl⟩, hw.sel [2, 3, 4, 5, 6, 7, 0, 1] (by decide) rfl⟩
   ·
    refine U.nil (E.thenN (W.condF rfl ?_))
    refine W.skip (E.end0 rfl (fun w1 hw => ?_))
    obtain rfl := Option.some.inj h
    exact ⟨_, _, rfl, ⟨_, _, _, _, _, rfl, rfl⟩, hw⟩
theorem w22_graph_walker_visit (a0_to : (List (List Int))) (a0_when : (List Int)) (a0_low : (List Int)) (a0_stack : (List Int)) (a0_parts : (List (List Int))) (a0_time : Int) (a1 : Int) (pb0 : Nat) (p0_to : Value) (q0_to : Nat → List Value) (p0_when : Value) (p0_low : Value) (p0_stack : Value) (p0_parts : Value) (q0_parts : Nat → List Value) (w : World) (r : ((List Int) × (List Int) × (List Int) × (List (List Int)) × Int)) (h : m22_graph_walker_visit a0_to a0_when a0_low a0_stack a0_parts a0_time a1 = some r) (F : List Nat) (hc0 : Cls w F [.obj pb0 [p0_to, p0_when, p0_low, p0_stack, p0_parts, .int .i64 a0_time] 50, .sl p0_to 25 1 (zr svRow q0_to a0_to), .ss (zs (svSd 3 1 I) q0_to a0_to), .sl p0_when 3 1 (a0_when.map I), .sl p0_low 3 1 (a0_low.map I), .sl p0_stack 3 1 (a0_stack.map I), .sl p0_parts 25 1 (zr svRow q0_parts a0_parts), .ss (zs (svSd 3 1 I) q0_parts a0_parts)] w) : DoesF Try.prog 22 [pt pb0 0, .int .i64 a1] F w fun u m => ∃ y1 y2 y3 y4 z4, u = .tuple #[] ∧ m = [.obj pb0 [p0_to, y1, y2, y3, y4, .int .i64 r.2.2.2.2] 50, .sl p0_to 25 1 (zr svRow q0_to a0_to), .ss (zs (svSd 3 1 I) q0_to a0_to), .sl y1 3 1 (r.1.map I), .sl y2 3 1 (r.2.1.map I), .sl y3 3 1 (r.2.2.1.map I), .sl y4 25 1 (zr svRow z4 r.2.2.2.1), .ss (zs (svSd 3 1 I) z4 r.2.2.2.1)] := w22_graph_walker_visitR big a0_to a0_when a0_low a0_stack a0_parts a0_time a1 pb0 p0_to q0_to p0_when p0_low p0_stack p0_parts q0_parts w r h F hc0
set_option maxRecDepth 100000 in
set_option maxHeartbeats 8000000 in
theorem w24_graph_Parts_1 (a0 : (List Int)) (a1 : (List Int)) (u0 : Value) (u1 : Value) (w : World) (r : Int) (h : m24_graph_Parts_1 a0 a1 = some r) (hA0 : At w u0 1 (a0.map I)) (hA1 : At w u1 1 (a1.map I)) : Does Try.prog 24 [u0, u1] w fun u m => u = .int .i64 r ∧ m = [] := by
  rw [m24_graph_Parts_1] at h
  refine body (n := 12) Try.func24 rfl rfl rfl (Cls.refl w) ?_
  refine W.seq (W.region (L.y rfl (Y.assign rfl) ?_))
  refine L.nil (E.thenN (W.seq (W.quietC mixed (by kernel_rfl) (fun _ hw => hw.drew) (fun hC => ?_))))
  refine U.y rfl (Y.move rfl) ?_
  refine U.m (V := fun _ => el u0 ((0 : Int).toNat * 1)) h rfl (Y.indexM (g := I) (l := a0) Try.underlying25 sz3 rfl rfl (fun w' hw => hA0.cls0 hw)) (fun x1 ex1 h => ?_)
  refine U.y rfl (Y.loadE1 (u := .int .i64 x1) ag3 rfl (fun w' hw => hA0.cls0 hw) (idx_map ex1)) ?_
  refine U.y rfl (Y.move rfl) ?_
  refine U.m (V := fun _ => el u1 ((0 : Int).toNat * 1)) h rfl (Y.indexM (g := I) (l := a1) Try.underlying25 sz3 rfl rfl (fun w' hw => hA1.cls0 hw)) (fun x2 ex2 h => ?_)
  refine U.y rfl (Y.loadE1 (u := .int .i64 x2) ag3 rfl (fun w' hw => hA1.cls0 hw) (idx_map ex2)) ?_
  refine U.m (V := fun x3 => .int .i64 x3) h rfl (Y.subM rfl rfl) (fun x3 ex3 h => ?_)
  refine U.y rfl (Y.assign rfl) ?_
  refine U.nil (E.thenN (W.ret (E.ret1 rfl rfl (fun w1 hw => ?_))))
  obtain rfl := Option.some.inj h
  exact ⟨_, _, rfl, ⟨rfl, rfl⟩, hw⟩
set_option maxRecDepth 100000 in
set_option maxHeartbeats 8000000 in
theorem w7_graph_Parts (a0 : Int) (a1 : (List TEdge)) (u1 : Value) (w : World) (r : ((List (List Int)) × Int)) (h : m7_graph_Parts a0 a1 = some r) (hA1 : At w u1 2 (a1.map TEdge.row)) : Does Try.prog 7 [.int .i64 a0, u1] w fun u m => ∃ v0 q0, u = .tuple #[v0, .int .i64 r.2] ∧ m = [.sl v0 25 1 (zr svRow q0 r.1), .ss (zs (svSd 3 1 I) q0 r.1)] := by
  rw [m7_graph_Parts] at h
  refine body (n := 49) Try.func7 rfl rfl rfl (Cls.refl w) ?_
  refine W.seq (W.region (L.y rfl (Y.assign rfl) ?_))
  refine L.y rfl (Y.assign rfl) ?_
  refine L.nil (E.thenN (W.seqJ (fun gs D => gs = [(0, .int .i64 a0), (1, u1)] ∧ D = Cls w [] [] ∧ m7_graph_Parts_K1 a0 a1 = some r) ?_ ?_))
  ·
   refine W.seq (W.region (L.y rfl (Y.move rfl) ?_))
   refine L.y rfl (Y.move rfl) ?_
   obtain ⟨x51, e52, h⟩ := bind1S h
   refine L.y rfl (Y.does en9 rfl (fun w' hw => (w9_graph_Check a0 a1 u1 w' _ e52 (hA1.cls0 hw)).mono (fun _ _ h => h.1))) ?_
   refine L.y rfl (Y.assign rfl) ?_
   refine L.nil (E.thenN (W.seq (W.region (L.y rfl (Y.move rfl) ?_))))
   refine L.ite h rfl (Y.neq rfl rfl) (fun c53 h => ?_) (fun c53 h => ?_)
   ·
    refine L.nil (E.thenN (W.condT rfl ?_))
    refine W.seq (W.region (L.y rfl (Y.move rfl) ?_))
    refine L.y rfl (Y.assign rfl) ?_
    refine L.y rfl (Y.assign rfl) ?_
    refine L.nil (E.thenN (W.ret (E.KSR (E.ret2 rfl rfl rfl (fun w1 hw => ?_)))))
    obtain rfl := Option.some.inj h
    exact ⟨_, _, rfl, ⟨_, _, rfl, rfl⟩, (Cls.nilZ hw 25 1 svRow (svSd 3 1 I) (fun _ => []))⟩
   ·
    refine L.nil (E.thenN (W.condF rfl ?_))
    exact W.skip (E.joinJ ⟨rfl, rfl, h⟩ ⟨rfl, rfl, trivial⟩ (fun _ hw => hw))
  ·
   rintro _ _ ⟨rfl, rfl, h⟩
   rw [m7_graph_Parts_K1] at h
   refine W.seqJ (fun gs D => ∃ (gb1 : Nat) (gv2 : Value) (gl3 : (List (List Int))) (gq4 : Nat → List Value) (gv5 : Value) (gl6 : (List Int)) (gv7 : Value) (gl8 : (List Int)), gs = [(0, .int .i64 a0), (7, pt gb1 0)] ∧ D = Cls w [] [.sl gv2 25 1 (zr svRow gq4 gl3), .ss (zs (svSd 3 1 I) gq4 gl3), .sl gv5 3 1 (gl6.map I), .sl gv7 3 1 (gl8.map I), .obj gb1 [gv2, gv5, gv7, .slice none 0 0, .slice none 0 0, .int .i64 0] 50] ∧ m7_graph_Parts_K2 a0 gl3 gl6 gl8 = some r) ?_ ?_
   ·
    refine W.drawn2 (k := 10) (stC [] [] (Cls w [] [])) rfl mixed (fun _ hw => hw.drew) (Sc.atD (fun _ hw => hw)) ?_
    refine V2.y (i := 0) (Nx2.of (Z := Cls w [] []) [] (by kernel_rfl) rfl (Zc.fin (fun _ hw => hw))) rfl rfl rfl (Y.move rfl) ?_
    refine V2.y (i := 1) (Nx2.of (Z := Cls w [] []) [] (by kernel_rfl) rfl (Zc.fin (fun _ hw => hw))) rfl rfl rfl (Y.move rfl) ?_
    refine V2.y (i := 3) (Nx2.of (Z := Cls w [] []) [] (by kernel_rfl) rfl (Zc.fin (fun _ hw => hw))) rfl rfl rfl (Y.move rfl) ?_
    refine V2.y (i := 5) (Nx2.of (Z := Cls w [] []) [] (by kernel_rfl) rfl (Zc.fin (fun _ hw => hw))) rfl rfl rfl (Y.move rfl) ?_
    obtain ⟨y19, e20, h⟩ := bind1S h
    obtain ⟨y21, e22, h⟩ := bind1S h
    obtain ⟨y23, e24, h⟩ := bind1S h
    refine V2.eff3 (i1 := 2) (i2 := 4) (i3 := 6) (by kernel_rfl) rfl rfl rfl ?_ ?_ ?_
    ·
     refine L.does rfl en20 rfl (fun w' hw => w20_graph_next a0 a1 u1 w' _ e20 (hA1.cls0 hw)) ?_
     rintro v25 _ ⟨_, q26, rfl, rfl⟩
     refine L.nil (E.toV2 (stC [] [] (Cls w [] [.sl v25 25 1 (zr svRow q26 y19), .ss (zs (svSd 3 1 I) q26 y19)])) 2 (by kernel_rfl) (Sc.stayD (fun _ hw => hw.sel [] (by decide) rfl)) (Sc.atD (fun _ hw => hw)) ?_)
     refine V2.eff2 (i1 := 4) (i2 := 6) (by kernel_rfl) rfl rfl ?_ ?_
     ·
      refine L.makeE (row := I) (z0 := 0) e22 rfl Try.underlying25 eL3 ze3 rfl rfl rfl ?_
      intro b27
      refine L.nil (E.toV2 (stC [] [] (Cls w [] [.sl (sv b27 a0.toNat) 3 1 (y21.map I), .sl v25 25 1 (zr svRow q26 y19), .ss (zs (svSd 3 1 I) q26 y19)])) 4 (by kernel_rfl) (Sc.stayD (fun _ hw => hw.sel [1, 2] (by decide) rfl)) (Sc.atD (fun _ hw => hw)) ?_)
      refine V2.eff (i := 6) (by kernel_rfl) rfl ?_
      refine L.makeE (row := I) (z0 := 0) e24 rfl Try.underlying25 eL3 ze3 rfl rfl rfl ?_
      intro b28
      refine L.nil (E.toV2 (stC [] [] (Cls w [] [.sl (sv b28 a0.toNat) 3 1 (y23.map I), .sl (sv b27 a0.toNat) 3 1 (y21.map I), .sl v25 25 1 (zr svRow q26 y19), .ss (zs (svSd 3 1 I) q26 y19)])) 6 (by kernel_rfl) (Sc.stayD (fun _ hw => hw.sel [1, 2, 3] (by decide) rfl)) (Sc.atD (fun _ hw => hw)) ?_)
      refine V2.y (i := 7) (Nx2.of (Z := Cls w [] [.sl (sv b28 a0.toNat) 3 1 (y23.map I), .sl (sv b27 a0.toNat) 3 1 (y21.map I), .sl v25 25 1 (zr svRow q26 y19), .ss (zs (svSd 3 1 I) q26 y19)]) [] (by kernel_rfl) rfl (Zc.fin (fun _ hw => hw))) rfl rfl rfl (Y.buildC (cells := #[v25, (sv b27 a0.toNat), (sv b28 a0.toNat), .slice none 0 0, .slice none 0 0, .int .i64 0]) rfl (fun w hw => by rcases ((As.at_ (hw.get (i := 2) rfl))).shape with ⟨h0, _⟩ | ⟨_, _, h0, _, _⟩ <;> rcases ((As.at_ (hw.get (i := 1) rfl))).shape with ⟨h1, _⟩ | ⟨_, _, h1, _, _⟩ <;> rcases ((As.at_ (hw.get (i := 0) rfl))).shape with ⟨h2, _⟩ | ⟨_, _, h2, _, _⟩ <;> simp only [h0, h1, h2] <;> kernel_rfl)) ?_
      refine V2.eff (i := 8) (by kernel_rfl) rfl ?_
      refine L.box rfl rfl ?_
      intro b29
      refine L.nil (E.toV2 (stC [] [] (Cls w [] [.obj b29 [v25, (sv b27 a0.toNat), (sv b28 a0.toNat), .slice none 0 0, .slice none 0 0, .int .i64 0] 50, .sl (sv b28 a0.toNat) 3 1 (y23.map I), .sl (sv b27 a0.toNat) 3 1 (y21.map I), .sl v25 25 1 (zr svRow q26 y19), .ss (zs (svSd 3 1 I) q26 y19)])) 8 (by kernel_rfl) (Sc.stayD (fun _ hw => hw.sel [1, 2, 3, 4] (by decide) rfl)) (Sc.atD (fun _ hw => hw)) ?_)
      refine V2.y (i := 9) (Nx2.of (Z := Cls w [] [.obj b29 [v25, (sv b27 a0.toNat), (sv b28 a0.toNat), .slice none 0 0, .slice none 0 0, .int .i64 0] 50, .sl (sv b28 a0.toNat) 3 1 (y23.map I), .sl (sv b27 a0.toNat) 3 1 (y21.map I), .sl v25 25 1 (zr svRow q26 y19), .ss (zs (svSd 3 1 I) q26 y19)]) [] (by kernel_rfl) rfl (Zc.fin (fun _ hw => hw))) rfl rfl rfl (Y.assign rfl) ?_
      refine V2.done (by kernel_rfl) ?_
      exact E.joinJ ⟨b29, v25, y19, q26, (sv b27 a0.toNat), y21, (sv b28 a0.toNat), y23, rfl, rfl, h⟩ ⟨rfl, rfl, trivial⟩ (fun _ hw => hw.sel [3, 4, 2, 1, 0] (by decide) rfl)
     ·
      refine L.makeE (row := I) (z0 := 0) e24 rfl Try.underlying25 eL3 ze3 rfl rfl rfl ?_
      intro b30
      refine L.nil (E.toV2 (stC [] [] (Cls w [] [.sl (sv b30 a0.toNat) 3 1 (y23.map I), .sl v25 25 1 (zr svRow q26 y19), .ss (zs (svSd 3 1 I) q26 y19)])) 6 (by kernel_rfl) (Sc.stayD (fun _ hw => hw.sel [1, 2] (by decide) rfl)) (Sc.atD (fun _ hw => hw)) ?_)
      refine V2.eff (i := 4) (by kernel_rfl) rfl ?_
      refine L.makeE (row := I) (z0 := 0) e22 rfl Try.underlying25 eL3 ze3 rfl rfl rfl ?_
      intro b31
      refine L.nil (E.toV2 (stC [] [] (Cls w [] [.sl (sv b31 a0.toNat) 3 1 (y21.map I), .sl (sv b30 a0.toNat) 3 1 (y23.map I), .sl v25 25 1 (zr svRow q26 y19), .ss (zs (svSd 3 1 I) q26 y19)])) 4 (by kernel_rfl) (Sc.stayD (fun _ hw => hw.sel [1, 2, 3] (by decide) rfl)) (Sc.atD (fun _ hw => hw)) ?_)
      refine V2.y (i := 7) (Nx2.of (Z := Cls w [] [.sl (sv b31 a0.toNat) 3 1 (y21.map I), .sl (sv b30 a0.toNat) 3 1 (y23.map I), .sl v25 25 1 (zr svRow q26 y19), .ss (zs (svSd 3 1 I) q26 y19)]) [] (by kernel_rfl) rfl (Zc.fin (fun _ hw => hw))) rfl rfl rfl (Y.buildC (cells := #[v25, (sv b31 a0.toNat), (sv b30 a0.toNat), .slice none 0 0, .slice none 0 0, .int .i64 0]) rfl (fun w hw => by rcases ((As.at_ (hw.get (i := 2) rfl))).shape with ⟨h0, _⟩ | ⟨_, _, h0, _, _⟩ <;> rcases ((As.at_ (hw.get (i := 0) rfl))).shape with ⟨h1, _⟩ | ⟨_, _, h1, _, _⟩ <;> rcases ((As.at_ (hw.get (i := 1) rfl))).shape with ⟨h2, _⟩ | ⟨_, _, h2, _, _⟩ <;> simp only [h0, h1, h2] <;> kernel_rfl)) ?_
      refine V2.eff (i := 8) (by kernel_rfl) rfl ?_
      refine L.box rfl rfl ?_
      intro b32
      refine L.nil (E.toV2 (stC [] [] (Cls w [] [.obj b32 [v25, (sv b31 a0.toNat), (sv b30 a0.toNat), .slice none 0 0, .slice none 0 0, .int .i64 0] 50, .sl (sv b31 a0.toNat) 3 1 (y21.map I), .sl (sv b30 a0.toNat) 3 1 (y23.map I), .sl v25 25 1 (zr svRow q26 y19), .ss (zs (svSd 3 1 I) q26 y19)])) 8 (by kernel_rfl) (Sc.stayD (fun _ hw => hw.sel [1, 2, 3, 4] (by decide) rfl)) (Sc.atD (fun _ hw => hw)) ?_)
      refine V2.y (i := 9) (Nx2.of (Z := Cls w [] [.obj b32 [v25, (sv b31 a0.toNat), (sv b30 a0.toNat), .slice none 0 0, .slice none 0 0, .int .i64 0] 50, .sl (sv b31 a0.toNat) 3 1 (y21.map I), .sl (sv b30 a0.toNat) 3 1 (y23.map I), .sl v25 25 1 (zr svRow q26 y19), .ss (zs (svSd 3 1 I) q26 y19)]) [] (by kernel_rfl) rfl (Zc.fin (fun _ hw => hw))) rfl rfl rfl (Y.assign rfl) ?_
      refine V2.done (by kernel_rfl) ?_
      exact E.joinJ ⟨b32, v25, y19, q26, (sv b31 a0.toNat), y21, (sv b30 a0.toNat), y23, rfl, rfl, h⟩ ⟨rfl, rfl, trivial⟩ (fun _ hw => hw.sel [3, 4, 1, 2, 0] (by decide) rfl)
    ·
     refine L.makeE (row := I) (z0 := 0) e22 rfl Try.underlying25 eL3 ze3 rfl rfl rfl ?_
     intro b33
     refine L.nil (E.toV2 (stC [] [] (Cls w [] [.sl (sv b33 a0.toNat) 3 1 (y21.map I)])) 4 (by kernel_rfl) (Sc.stayD (fun _ hw => hw.sel [] (by decide) rfl)) (Sc.atD (fun _ hw => hw)) ?_)
     refine V2.eff2 (i1 := 2) (i2 := 6) (by kernel_rfl) rfl rfl ?_ ?_
     ·
      refine L.does rfl en20 rfl (fun w' hw => w20_graph_next a0 a1 u1 w' _ e20 (hA1.cls0 hw)) ?_
      rintro v34 _ ⟨_, q35, rfl, rfl⟩
      refine L.nil (E.toV2 (stC [] [] (Cls w [] [.sl v34 25 1 (zr svRow q35 y19), .ss (zs (svSd 3 1 I) q35 y19), .sl (sv b33 a0.toNat) 3 1 (y21.map I)])) 2 (by kernel_rfl) (Sc.stayD (fun _ hw => hw.sel [2] (by decide) rfl)) (Sc.atD (fun _ hw => hw)) ?_)
      refine V2.eff (i := 6) (by kernel_rfl) rfl ?_
      refine L.makeE (row := I) (z0 := 0) e24 rfl Try.underlying25 eL3 ze3 rfl rfl rfl ?_
      intro b36
      refine L.nil (E.toV2 (stC [] [] (Cls w [] [.sl (sv b36 a0.toNat) 3 1 (y23.map I), .sl v34 25 1 (zr svRow q35 y19), .ss (zs (svSd 3 1 I) q35 y19), .sl (sv b33 a0.toNat) 3 1 (y21.map I)])) 6 (by kernel_rfl) (Sc.stayD (fun _ hw => hw.sel [1, 2, 3] (by decide) rfl)) (Sc.atD (fun _ hw => hw)) ?_)
      refine V2.y (i := 7) (Nx2.of (Z := Cls w [] [.sl (sv b36 a0.toNat) 3 1 (y23.map I), .sl v34 25 1 (zr svRow q35 y19), .ss (zs (svSd 3 1 I) q35 y19), .sl (sv b33 a0.toNat) 3 1 (y21.map I)]) [] (by kernel_rfl) rfl (Zc.fin (fun _ hw => hw))) rfl rfl rfl (Y.buildC (cells := #[v34, (sv b33 a0.toNat), (sv b36 a0.toNat), .slice none 0 0, .slice none 0 0, .int .i64 0]) rfl (fun w hw => by rcases ((As.at_ (hw.get (i := 1) rfl))).shape with ⟨h0, _⟩ | ⟨_, _, h0, _, _⟩ <;> rcases ((As.at_ (hw.get (i := 3) rfl))).shape with ⟨h1, _⟩ | ⟨_, _, h1, _, _⟩ <;> rcases ((As.at_ (hw.get (i := 0) rfl))).shape with ⟨h2, _⟩ | ⟨_, _, h2, _, _⟩ <;> simp only [h0, h1, h2] <;> kernel_rfl)) ?_
      refine V2.eff (i := 8) (by kernel_rfl) rfl ?_
      refine L.box rfl rfl ?_
      intro b37
      refine L.nil (E.toV2 (stC [] [] (Cls w [] [.obj b37 [v34, (sv b33 a0.toNat), (sv b36 a0.toNat), .slice none 0 0, .slice none 0 0, .int .i64 0] 50, .sl (sv b36 a0.toNat) 3 1 (y23.map I), .sl v34 25 1 (zr svRow q35 y19), .ss (zs (svSd 3 1 I) q35 y19), .sl (sv b33 a0.toNat) 3 1 (y21.map I)])) 8 (by kernel_rfl) (Sc.stayD (fun _ hw => hw.sel [1, 2, 3, 4] (by decide) rfl)) (Sc.atD (fun _ hw => hw)) ?_)
      refine V2.y (i := 9) (Nx2.of (Z := Cls w [] [.obj b37 [v34, (sv b33 a0.toNat), (sv b36 a0.toNat), .slice none 0 0, .slice none 0 0, .int .i64 0] 50, .sl (sv b36 a0.toNat) 3 1 (y23.map I), .sl v34 25 1 (zr svRow q35 y19), .ss (zs (svSd 3 1 I) q35 y19), .sl (sv b33 a0.toNat) 3 1 (y21.map I)]) [] (by kernel_rfl) rfl (Zc.fin (fun _ hw => hw))) rfl rfl rfl (Y.assign rfl) ?_
      refine V2.done (by kernel_rfl) ?_
      exact E.joinJ ⟨b37, v34, y19, q35, (sv b33 a0.toNat), y21, (sv b36 a0.toNat), y23, rfl, rfl, h⟩ ⟨rfl, rfl, trivial⟩ (fun _ hw => hw.sel [2, 3, 4, 1, 0] (by decide) rfl)
     ·
      refine L.makeE (row := I) (z0 := 0) e24 rfl Try.underlying25 eL3 ze3 rfl rfl rfl ?_
      intro b38
      refine L.nil (E.toV2 (stC [] [] (Cls w [] [.sl (sv b38 a0.toNat) 3 1 (y23.map I), .sl (sv b33 a0.toNat) 3 1 (y21.map I)])) 6 (by kernel_rfl) (Sc.stayD (fun _ hw => hw.sel [1] (by decide) rfl)) (Sc.atD (fun _ hw => hw)) ?_)
      refine V2.eff (i := 2) (by kernel_rfl) rfl ?_
      refine L.does rfl en20 rfl (fun w' hw => w20_graph_next a0 a1 u1 w' _ e20 (hA1.cls0 hw)) ?_
      rintro v39 _ ⟨_, q40, rfl, rfl⟩
      refine L.nil (E.toV2 (stC [] [] (Cls w [] [.sl v39 25 1 (zr svRow q40 y19), .ss (zs (svSd 3 1 I) q40 y19), .sl (sv b38 a0.toNat) 3 1 (y23.map I), .sl (sv b33 a0.toNat) 3 1 (y21.map I)])) 2 (by kernel_rfl) (Sc.stayD (fun _ hw => hw.sel [2, 3] (by decide) rfl)) (Sc.atD (fun _ hw => hw)) ?_)
      refine V2.y (i := 7) (Nx2.of (Z := Cls w [] [.sl v39 25 1 (zr svRow q40 y19), .ss (zs (svSd 3 1 I) q40 y19), .sl (sv b38 a0.toNat) 3 1 (y23.map I), .sl (sv b33 a0.toNat) 3 1 (y21.map I)]) [] (by kernel_rfl) rfl (Zc.fin (fun _ hw => hw))) rfl rfl rfl (Y.buildC (cells := #[v39, (sv b33 a0.toNat), (sv b38 a0.toNat), .slice none 0 0, .slice none 0 0, .int .i64 0]) rfl (fun w hw => by rcases ((As.at_ (hw.get (i := 0) rfl))).shape with ⟨h0, _⟩ | ⟨_, _, h0, _, _⟩ <;> rcases ((As.at_ (hw.get (i := 3) rfl))).shape with ⟨h1, _⟩ | ⟨_, _, h1, _, _⟩ <;> rcases ((As.at_ (hw.get (i := 2) rfl))).shape with ⟨h2, _⟩ | ⟨_, _, h2, _, _⟩ <;> simp only [h0, h1, h2] <;> kernel_rfl)) ?_
      refine V2.eff (i := 8) (by kernel_rfl) rfl ?_
      refine L.box rfl rfl ?_
      intro b41
      refine L.nil (E.toV2 (stC [] [] (Cls w [] [.obj b41 [v39, (sv b33 a0.toNat), (sv b38 a0.toNat), .slice none 0 0, .slice none 0 0, .int .i64 0] 50, .sl v39 25 1 (zr svRow q40 y19), .ss (zs (svSd 3 1 I) q40 y19), .sl (sv b38 a0.toNat) 3 1 (y23.map I), .sl (sv b33 a0.toNat) 3 1 (y21.map I)])) 8 (by kernel_rfl) (Sc.stayD (fun _ hw => hw.sel [1, 2, 3, 4] (by decide) rfl)) (Sc.atD (fun _ hw => hw)) ?_)
      refine V2.y (i := 9) (Nx2.of (Z := Cls w [] [.obj b41 [v39, (sv b33 a0.toNat), (sv b38 a0.toNat), .slice none 0 0, .slice none 0 0, .int .i64 0] 50, .sl v39 25 1 (zr svRow q40 y19), .ss (zs (svSd 3 1 I) q40 y19), .sl (sv b38 a0.toNat) 3 1 (y23.map I), .sl (sv b33 a0.toNat) 3 1 (y21.map I)]) [] (by kernel_rfl) rfl (Zc.fin (fun _ hw => hw))) rfl rfl rfl (Y.assign rfl) ?_
      refine V2.done (by kernel_rfl) ?_
      exact E.joinJ ⟨b41, v39, y19, q40, (sv b33 a0.toNat), y21, (sv b38 a0.toNat), y23, rfl, rfl, h⟩ ⟨rfl, rfl, trivial⟩ (fun _ hw => hw.sel [1, 2, 4, 3, 0] (by decide) rfl)
    ·
     refine L.makeE (row := I) (z0 := 0) e24 rfl Try.underlying25 eL3 ze3 rfl rfl rfl ?_
     intro b42
     refine L.nil (E.toV2 (stC [] [] (Cls w [] [.sl (sv b42 a0.toNat) 3 1 (y23.map I)])) 6 (by kernel_rfl) (Sc.stayD (fun _ hw => hw.sel [] (by decide) rfl)) (Sc.atD (fun _ hw => hw)) ?_)
     refine V2.eff2 (i1 := 2) (i2 := 4) (by kernel_rfl) rfl rfl ?_ ?_
     ·
      refine L.does rfl en20 rfl (fun w' hw => w20_graph_next a0 a1 u1 w' _ e20 (hA1.cls0 hw)) ?_
      rintro v43 _ ⟨_, q44, rfl, rfl⟩
      refine L.nil (E.toV2 (stC [] [] (Cls w [] [.sl v43 25 1 (zr svRow q44 y19), .ss (zs (svSd 3 1 I) q44 y19), .sl (sv b42 a0.toNat) 3 1 (y23.map I)])) 2 (by kernel_rfl) (Sc.stayD (fun _ hw => hw.sel [2] (by decide) rfl)) (Sc.atD (fun _ hw => hw)) ?_)
      refine V2.eff (i := 4) (by kernel_rfl) rfl ?_
      refine L.makeE (row := I) (z0 := 0) e22 rfl Try.underlying25 eL3 ze3 rfl rfl rfl ?_
      intro b45
      refine L.nil (E.toV2 (stC [] [] (Cls w [] [.sl (sv b45 a0.toNat) 3 1 (y21.map I), .sl v43 25 1 (zr svRow q44 y19), .ss (zs (svSd 3 1 I) q44 y19), .sl (sv b42 a0.toNat) 3 1 (y23.map I)])) 4 (by kernel_rfl) (Sc.stayD (fun _ hw => hw.sel [1, 2, 3] (by decide) rfl)) (Sc.atD (fun _ hw => hw)) ?_)
      refine V2.y (i := 7) (Nx2.of (Z := Cls w [] [.sl (sv b45 a0.toNat) 3 1 (y21.map I), .sl v43 25 1 (zr svRow q44 y19), .ss (zs (svSd 3 1 I) q44 y19), .sl (sv b42 a0.toNat) 3 1 (y23.map I)]) [] (by kernel_rfl) rfl (Zc.fin (fun _ hw => hw))) rfl rfl rfl (Y.buildC (cells := #[v43, (sv b45 a0.toNat), (sv b42 a0.toNat), .slice none 0 0, .slice none 0 0, .int .i64 0]) rfl (fun w hw => by rcases ((As.at_ (hw.get (i := 1) rfl))).shape with ⟨h0, _⟩ | ⟨_, _, h0, _, _⟩ <;> rcases ((As.at_ (hw.get (i := 0) rfl))).shape with ⟨h1, _⟩ | ⟨_, _, h1, _, _⟩ <;> rcases ((As.at_ (hw.get (i := 3) rfl))).shape with ⟨h2, _⟩ | ⟨_, _, h2, _, _⟩ <;> simp only [h0, h1, h2] <;> kernel_rfl)) ?_
      refine V2.eff (i := 8) (by kernel_rfl) rfl ?_
      refine L.box rfl rfl ?_
      intro b46
      refine L.nil (E.toV2 (stC [] [] (Cls w [] [.obj b46 [v43, (sv b45 a0.toNat), (sv b42 a0.toNat), .slice none 0 0, .slice none 0 0, .int .i64 0] 50, .sl (sv b45 a0.toNat) 3 1 (y21.map I), .sl v43 25 1 (zr svRow q44 y19), .ss (zs (svSd 3 1 I) q44 y19), .sl (sv b42 a0.toNat) 3 1 (y23.map I)])) 8 (by kernel_rfl) (Sc.stayD (fun _ hw => hw.sel [1, 2, 3, 4] (by decide) rfl)) (Sc.atD (fun _ hw => hw)) ?_)
      refine V2.y (i := 9) (Nx2.of (Z := Cls w [] [.obj b46 [v43, (sv b45 a0.toNat), (sv b42 a0.toNat), .slice none 0 0, .slice none 0 0, .int .i64 0] 50, .sl (sv b45 a0.toNat) 3 1 (y21.map I), .sl v43 25 1 (zr svRow q44 y19), .ss (zs (svSd 3 1 I) q44 y19), .sl (sv b42 a0.toNat) 3 1 (y23.map I)]) [] (by kernel_rfl) rfl (Zc.fin (fun _ hw => hw))) rfl rfl rfl (Y.assign rfl) ?_
      refine V2.done (by kernel_rfl) ?_
      exact E.joinJ ⟨b46, v43, y19, q44, (sv b45 a0.toNat), y21, (sv b42 a0.toNat), y23, rfl, rfl, h⟩ ⟨rfl, rfl, trivial⟩ (fun _ hw => hw.sel [2, 3, 1, 4, 0] (by decide) rfl)
     ·
      refine L.makeE (row := I) (z0 := 0) e22 rfl Try.underlying25 eL3 ze3 rfl rfl rfl ?_
      intro b47
      refine L.nil (E.toV2 (stC [] [] (Cls w [] [.sl (sv b47 a0.toNat) 3 1 (y21.map I), .sl (sv b42 a0.toNat) 3 1 (y23.map I)])) 4 (by kernel_rfl) (Sc.stayD (fun _ hw => hw.sel [1] (by decide) rfl)) (Sc.atD (fun _ hw => hw)) ?_)
      refine V2.eff (i := 2) (by kernel_rfl) rfl ?_
      refine L.does rfl en20 rfl (fun w' hw => w20_graph_next a0 a1 u1 w' _ e20 (hA1.cls0 hw)) ?_
      rintro v48 _ ⟨_, q49, rfl, rfl⟩
      refine L.nil (E.toV2 (stC [] [] (Cls w [] [.sl v48 25 1 (zr svRow q49 y19), .ss (zs (svSd 3 1 I) q49 y19), .sl (sv b47 a0.toNat) 3 1 (y21.map I), .sl (sv b42 a0.toNat) 3 1 (y23.map I)])) 2 (by kernel_rfl) (Sc.stayD (fun _ hw => hw.sel [2, 3] (by decide) rfl)) (Sc.atD (fun _ hw => hw)) ?_)
      refine V2.y (i := 7) (Nx2.of (Z := Cls w [] [.sl v48 25 1 (zr svRow q49 y19), .ss (zs (svSd 3 1 I) q49 y19), .sl (sv b47 a0.toNat) 3 1 (y21.map I), .sl (sv b42 a0.toNat) 3 1 (y23.map I)]) [] (by kernel_rfl) rfl (Zc.fin (fun _ hw => hw))) rfl rfl rfl (Y.buildC (cells := #[v48, (sv b47 a0.toNat), (sv b42 a0.toNat), .slice none 0 0, .slice none 0 0, .int .i64 0]) rfl (fun w hw => by rcases ((As.at_ (hw.get (i := 0) rfl))).shape with ⟨h0, _⟩ | ⟨_, _, h0, _, _⟩ <;> rcases ((As.at_ (hw.get (i := 2) rfl))).shape with ⟨h1, _⟩ | ⟨_, _, h1, _, _⟩ <;> rcases ((As.at_ (hw.get (i := 3) rfl))).shape with ⟨h2, _⟩ | ⟨_, _, h2, _, _⟩ <;> simp only [h0, h1, h2] <;> kernel_rfl)) ?_
      refine V2.eff (i := 8) (by kernel_rfl) rfl ?_
      refine L.box rfl rfl ?_
      intro b50
      refine L.nil (E.toV2 (stC [] [] (Cls w [] [.obj b50 [v48, (sv b47 a0.toNat), (sv b42 a0.toNat), .slice none 0 0, .slice none 0 0, .int .i64 0] 50, .sl v48 25 1 (zr svRow q49 y19), .ss (zs (svSd 3 1 I) q49 y19), .sl (sv b47 a0.toNat) 3 1 (y21.map I), .sl (sv b42 a0.toNat) 3 1 (y23.map I)])) 8 (by kernel_rfl) (Sc.stayD (fun _ hw => hw.sel [1, 2, 3, 4] (by decide) rfl)) (Sc.atD (fun _ hw => hw)) ?_)
      refine V2.y (i := 9) (Nx2.of (Z := Cls w [] [.obj b50 [v48, (sv b47 a0.toNat), (sv b42 a0.toNat), .slice none 0 0, .slice none 0 0, .int .i64 0] 50, .sl v48 25 1 (zr svRow q49 y19), .ss (zs (svSd 3 1 I) q49 y19), .sl (sv b47 a0.toNat) 3 1 (y21.map I), .sl (sv b42 a0.toNat) 3 1 (y23.map I)]) [] (by kernel_rfl) rfl (Zc.fin (fun _ hw => hw))) rfl rfl rfl (Y.assign rfl) ?_
      refine V2.done (by kernel_rfl) ?_
      exact E.joinJ ⟨b50, v48, y19, q49, (sv b47 a0.toNat), y21, (sv b42 a0.toNat), y23, rfl, rfl, h⟩ ⟨rfl, rfl, trivial⟩ (fun _ hw => hw.sel [1, 2, 3, 4, 0] (by decide) rfl)
   ·
    rintro _ _ ⟨gb1, gv2, gl3, gq4, gv5, gl6, gv7, gl8, rfl, rfl, h⟩
    rw [m7_graph_Parts_K2] at h
    refine W.seqJ (fun gs D => ∃ (gv9 : Value) (gl10 : (List Int)) (gv11 : Value) (gl12 : (List Int)) (gv13 : Value) (gl14 : (List Int)) (gv15 : Value) (gl16 : (List (List Int))) (gq17 : Nat → List Value) (gx18 : Int), gs = [(7, pt gb1 0)] ∧ D = Cls w [] [.obj gb1 [gv2, gv9, gv11, gv13, gv15, .int .i64 gx18] 50, .sl gv2 25 1 (zr svRow gq4 gl3), .ss (zs (svSd 3 1 I) gq4 gl3), .sl gv9 3 1 (gl10.map I), .sl gv11 3 1 (gl12.map I), .sl gv13 3 1 (gl14.map I), .sl gv15 25 1 (zr svRow gq17 gl16), .ss (zs (svSd 3 1 I) gq17 gl16)] ∧ m7_graph_Parts_K3 gl10 gl12 gl14 gl16 gx18 = some r) ?_ ?_
    ·
     refine W.seq (W.region (L.y rfl (Y.move rfl) ?_))
     refine L.y rfl (Y.move rfl) ?_
     refine L.nil (E.thenN (W.block (W.nilSl 3 1 ?_)))
     refine W.nilZ 25 1 svRow (svSd 3 1 I) (fun _ => []) ?_
     refine W.loopJ (fun m gs D => ∃ (gx19 : Int) (gv20 : Value) (gl21 : (List Int)) (gv22 : Value) (gl23 : (List Int)) (gv24 : Value) (gl25 : (List Int)) (gv26 : Value) (gl27 : (List (List Int))) (gq28 : Nat → List Value) (gx29 : Int), gs = [(7, pt gb1 0), (24, .int .i64 a0), (25, .int .i64 gx19)] ∧ D = Cls w [] [.obj gb1 [gv2, gv20, gv22, gv24, gv26, .int .i64 gx29] 50, .sl gv2 25 1 (zr svRow gq4 gl3), .ss (zs (svSd 3 1 I) gq4 gl3), .sl gv20 3 1 (gl21.map I), .sl gv22 3 1 (gl23.map I), .sl gv24 3 1 (gl25.map I), .sl gv26 25 1 (zr svRow gq28 gl27), .ss (zs (svSd 3 1 I) gq28 gl27)] ∧ m7_graph_Parts_L1 a0 gl3 m gx19 gl21 gl23 gl25 gl27 gx29 = some r) ⟨0, gv5, gl6, gv7, gl8, .slice none 0 0, [], .slice none 0 0, [], (fun _ => []), 0, rfl, rfl, h⟩ ⟨rfl, rfl, rfl, trivial⟩ (fun _ hw => hw.sel [7, 3, 4, 5, 6, 2, 0, 1] (by decide) rfl) ?_
     rintro m _ _ ⟨gx19, gv20, gl21, gv22, gl23, gv24, gl25, gv26, gl27, gq28, gx29, rfl, rfl, h⟩
     rcases m with _ | m
     · rw [m7_graph_Parts_L1] at h; cases h
     rw [m7_graph_Parts_L1] at h
     generalize hg1 : m7_graph_Parts_L1 a0 gl3 m = go1 at h
     rw [m7_graph_Parts_L1B] at h
     refine W.seq (W.region (L.ite h rfl (Y.lss rfl rfl) (fun c3 h => ?_) (fun c3 h => ?_)))
     ·
      refine L.nil (E.thenN (W.seq (W.condT rfl ?_)))
      refine W.skip (E.thenN (W.seq (W.block (W.seq (W.region (L.y rfl (Y.move rfl) ?_))))))
      refine L.y rfl (Y.assign rfl) ?_
      refine L.nil (E.thenN (W.seq (W.region (L.y rfl (Y.move rfl) ?_))))
      refine L.y rfl (Y.nilCheck rfl) ?_
      refine L.y rfl (Y.fieldP fd50_1 rfl) ?_
      refine L.y rfl (Y.loadP (i := 0) ag25 rfl rfl rfl) ?_
      refine L.y rfl (Y.move rfl) ?_
      refine L.m (V := fun _ => el gv20 (gx19.toNat * 1)) h rfl (Y.indexM (g := I) (l := gl21) Try.underlying25 sz3 rfl rfl (fun w hw => As.at_ (hw.get (i := 3) rfl))) (fun x4 ex4 h => ?_)
      refine L.y rfl (Y.loadE1 (u := .int .i64 x4) ag3 rfl (fun w hw => As.at_ (hw.get (i := 3) rfl)) (idx_map ex4)) ?_
      refine L.ite h rfl (Y.eql rfl rfl) (fun c5 h => ?_) (fun c5 h => ?_)
      ·
       refine L.nil (E.thenN (W.condT rfl ?_))
       refine W.region (L.y rfl (Y.move rfl) ?_)
       refine L.y rfl (Y.move rfl) ?_
       obtain ⟨l6, l7, l8, l9, x10, e11, h⟩ := bind5S h
       refine L.doesP (A := [.obj gb1 [gv2, gv20, gv22, gv24, gv26, .int .i64 gx29] 50, .sl gv2 25 1 (zr svRow gq4 gl3), .ss (zs (svSd 3 1 I) gq4 gl3), .sl gv20 3 1 (gl21.map I), .sl gv22 3 1 (gl23.map I), .sl gv24 3 1 (gl25.map I), .sl gv26 25 1 (zr svRow gq28 gl27), .ss (zs (svSd 3 1 I) gq28 gl27)]) (M := []) rfl en22 rfl (fun w' hw => w22_graph_walker_visit gl3 gl21 gl23 gl25 gl27 gx29 gx19 gb1 gv2 gq4 gv20 gv22 gv24 gv26 gq28 w' _ e11 _ hw.lend) ?_
       rintro _ _ ⟨v12, v13, v14, v15, q16, rfl, rfl⟩
       refine L.to (D := Cls w [] [.obj gb1 [gv2, v12, v13, v14, v15, .int .i64 x10] 50, .sl gv2 25 1 (zr svRow gq4 gl3), .ss (zs (svSd 3 1 I) gq4 gl3), .sl v12 3 1 (l6.map I), .sl v13 3 1 (l7.map I), .sl v14 3 1 (l8.map I), .sl v15 25 1 (zr svRow q16 l9), .ss (zs (svSd 3 1 I) q16 l9)]) (fun _ hw => hw) ?_
       refine L.nil (E.blockN (E.thenN (W.region (L.m (V := fun x17 => .int .i64 x17) h rfl (Y.addM rfl rfl) (fun x17 ex17 h => ?_)))))
       refine L.y rfl (Y.move rfl) ?_
       exact L.nil (E.againJ ⟨x17, v12, l6, v13, l7, v14, l8, v15, l9, q16, x10, rfl, rfl, by rw [hg1]; exact h⟩ (Nat.lt_succ_self _) ⟨rfl, rfl, rfl, trivial⟩ (fun _ hw => hw))
      ·
       refine L.nil (E.thenN (W.condF rfl ?_))
       refine W.skip (E.blockN (E.thenN (W.region (L.m (V := fun x18 => .int .i64 x18) h rfl (Y.addM rfl rfl) (fun x18 ex18 h => ?_)))))
       refine L.y rfl (Y.move rfl) ?_
       exact L.nil (E.againJ ⟨x18, gv20, gl21, gv22, gl23, gv24, gl25, gv26, gl27, gq28, gx29, rfl, rfl, by rw [hg1]; exact h⟩ (Nat.lt_succ_self _) ⟨rfl, rfl, rfl, trivial⟩ (fun _ hw => hw))
     ·
      refine L.nil (E.thenN (W.seq (W.condF rfl ?_)))
      exact W.exit (E.thenX (E.KLX (E.blockX (E.joinJ ⟨gv20, gl21, gv22, gl23, gv24, gl25, gv26, gl27, gq28, gx29, rfl, rfl, h⟩ ⟨rfl, trivial⟩ (fun _ hw => hw)))))
    ·
     rintro _ _ ⟨gv9, gl10, gv11, gl12, gv13, gl14, gv15, gl16, gq17, gx18, rfl, rfl, h⟩
     rw [m7_graph_Parts_K3] at h
     refine W.seq (W.region (L.y rfl (Y.move rfl) ?_))
     refine L.y rfl (Y.nilCheck rfl) ?_
     refine L.y rfl (Y.fieldP fd50_4 rfl) ?_
     refine L.y rfl (Y.loadP (i := 0) ag28 rfl rfl rfl) ?_
     refine L.sortH (i := 6) (j := 7) (q := gq17) (l := gl16) (mc := m24_graph_Parts_1) h wSortL23 hcmp24 (fun a b u v w r h hA hB => (w24_graph_Parts_1 a b u v w r h hA hB).mono (fun _ _ h => h.1)) en24 rfl en23 rfl rfl rfl rfl (by decide) ?_
     intro l1 q2 el1 h
     refine L.to (D := Cls w [] [.obj gb1 [gv2, gv9, gv11, gv13, gv15, .int .i64 gx18] 50, .sl gv2 25 1 (zr svRow gq4 gl3), .ss (zs (svSd 3 1 I) gq4 gl3), .sl gv9 3 1 (gl10.map I), .sl gv11 3 1 (gl12.map I), .sl gv13 3 1 (gl14.map I), .sl gv15 25 1 (zr svRow q2 l1), .ss (zs (svSd 3 1 I) q2 l1)]) (fun _ hw => hw) ?_
     refine L.nil (E.thenN (W.seq (W.region (L.y rfl (Y.move rfl) ?_))))
     refine L.y rfl (Y.nilCheck rfl) ?_
     refine L.y rfl (Y.fieldP fd50_4 rfl) ?_
     refine L.y rfl (Y.loadP (i := 0) ag28 rfl rfl rfl) ?_
     refine L.y rfl (Y.assign rfl) ?_
     refine L.y rfl (Y.assign rfl) ?_
     refine L.nil (E.thenN (W.ret (E.ret2 rfl rfl rfl (fun w1 hw => ?_))))
     obtain rfl := Option.some.inj h
     exact ⟨_, _, rfl, ⟨_, _, rfl, rfl⟩, hw.sel [6, 7] (by decide) rfl⟩
set_option maxRecDepth 100000 in
set_option maxHeartbeats 8000000 in
theorem w8_graph_Reach (a0 : Int) (a1 : (List TEdge)) (a2 : Int) (u1 : Value) (w : World) (r : ((List Int) × Int)) (h : m8_graph_Reach a0 a1 a2 = some r) (hA1 : At w u1 2 (a1.map TEdge.row)) : Does Try.prog 8 [.int .i64 a0, u1, .int .i64 a2] w fun u m => ∃ v0, u = .tuple #[v0, .int .i64 r.2] ∧ m = [.sl v0 3 1 (r.1.map I)] := by
  rw [m8_graph_Reach] at h
  refine body (n := 76) Try.func8 rfl rfl rfl (Cls.refl w) ?_
  refine W.seq (W.region (L.y rfl (Y.assign rfl) ?_))
  refine L.y rfl (Y.assign rfl) ?_
  refine L.nil (E.thenN (W.seqJ (fun gs D => gs = [(0, .int .i64 a0), (1, u1), (2, .int .i64 a2)] ∧ D = Cls w [] [] ∧ m8_graph_Reach_K1 a2 a0 a1 = some r) ?_ ?_))
  ·
   refine W.seq (W.region (L.y rfl (Y.move rfl) ?_))
   refine L.y rfl (Y.move rfl) ?_
   obtain ⟨x31, e32, h⟩ := bind1S h
   refine L.y rfl (Y.does en9 rfl (fun w' hw => (w9_graph_Check a0 a1 u1 w' _ e32 (hA1.cls0 hw)).mono (fun _ _ h => h.1))) ?_
   refine L.y rfl (Y.assign rfl) ?_
   refine L.nil (E.thenN (W.seq (W.region (L.y rfl (Y.move rfl) ?_))))
   refine L.ite h rfl (Y.neq rfl rfl) (fun c33 h => ?_) (fun c33 h => ?_)
   ·
    refine L.nil (E.thenN (W.condT rfl ?_))
    refine W.seq (W.region (L.y rfl (Y.move rfl) ?_))
    refine L.y rfl (Y.assign rfl) ?_
    refine L.y rfl (Y.assign rfl) ?_
    refine L.nil (E.thenN (W.ret (E.KSR (E.ret2 rfl rfl rfl (fun w1 hw => ?_)))))
    obtain rfl := Option.some.inj h
    exact ⟨_, _, rfl, ⟨_, rfl, rfl⟩, (hw.nilSl 3 1)⟩
   ·
    refine L.nil (E.thenN (W.condF rfl ?_))
    exact W.skip (E.joinJ ⟨rfl, rfl, h⟩ ⟨rfl, rfl, rfl, trivial⟩ (fun _ hw => hw))
  ·
   rintro _ _ ⟨rfl, rfl, h⟩
   rw [m8_graph_Reach_K1] at h
   refine W.seqJ (fun gs D => gs = [(0, .int .i64 a0), (1, u1), (2, .int .i64 a2)] ∧ D = Cls w [] [] ∧ m8_graph_Reach_K2 a0 a1 a2 = some r) ?_ ?_
   ·
    refine W.seq (W.region (L.y rfl (Y.move rfl) ?_))
    refine L.ite h rfl (Y.lss rfl rfl) (fun c29 h => ?_) (fun c29 h => ?_)
    ·
     refine L.y rfl (Y.move rfl) ?_
     refine L.pass rfl rfl (by nofun) ?_
     refine L.pass rfl rfl (by nofun) ?_
     refine L.pass rfl rfl (by nofun) ?_
     refine L.y rfl (Y.pickT rfl rfl) ?_
     refine L.nil (E.thenN (W.condT rfl ?_))
     refine W.seq (W.region (L.y rfl (Y.assign rfl) ?_))
     refine L.y rfl (Y.assign rfl) ?_
     refine L.nil (E.thenN (W.ret (E.KSR (E.ret2 rfl rfl rfl (fun w1 hw => ?_)))))
     obtain rfl := Option.some.inj h
     exact ⟨_, _, rfl, ⟨_, rfl, rfl⟩, (hw.nilSl 3 1)⟩
    ·
     refine L.y rfl (Y.move rfl) ?_
     refine L.take rfl (L.y rfl (Y.move rfl) ?_)
     refine L.take rfl (L.y rfl (Y.move rfl) ?_)
     refine L.take rfl (L.ite h rfl (Y.geq rfl rfl) (fun c30 h => ?_) (fun c30 h => ?_))
     ·
      refine L.y rfl (Y.pickF rfl rfl) ?_
      refine L.nil (E.thenN (W.condT rfl ?_))
      refine W.seq (W.region (L.y rfl (Y.assign rfl) ?_))
      refine L.y rfl (Y.assign rfl) ?_
      refine L.nil (E.thenN (W.ret (E.KSR (E.ret2 rfl rfl rfl (fun w1 hw => ?_)))))
      obtain rfl := Option.some.inj h
      exact ⟨_, _, rfl, ⟨_, rfl, rfl⟩, (hw.nilSl 3 1)⟩
     ·
      refine L.y rfl (Y.pickF rfl rfl) ?_
      refine L.nil (E.thenN (W.condF rfl ?_))
      exact W.skip (E.joinJ ⟨rfl, rfl, h⟩ ⟨rfl, rfl, rfl, trivial⟩ (fun _ hw => hw))
   ·
    rintro _ _ ⟨rfl, rfl, h⟩
    rw [m8_graph_Reach_K2] at h
    refine W.seq (W.region (L.y rfl (Y.move rfl) ?_))
    refine L.y rfl (Y.move rfl) ?_
    obtain ⟨l1, e4, h⟩ := bind1S h
    refine L.does rfl en20 rfl (fun w' hw => w20_graph_next a0 a1 u1 w' _ e4 (hA1.cls0 hw)) ?_
    rintro v2 _ ⟨_, q3, rfl, rfl⟩
    refine L.y rfl (Y.assign rfl) ?_
    refine L.nil (E.thenN (W.seq (W.region (L.y rfl (Y.move rfl) ?_))))
    obtain ⟨l5, el5, h⟩ := bind1S h
    refine L.makeE (row := I) (z0 := 0) el5 rfl Try.underlying25 eL3 ze3 rfl rfl rfl ?_
    intro b6
    refine L.y rfl (Y.assign rfl) ?_
    refine L.nil (E.thenN (W.seq (W.region (L.y rfl (Y.move rfl) ?_))))
    refine L.y rfl (Y.move rfl) ?_
    refine L.m (V := fun _ => el v2 (a2.toNat * 1)) h rfl (Y.indexMZ (row := svRow) (vs := q3) (l := l1) Try.underlying28 sz25 rfl rfl (fun w hw => As.at_ (hw.get (i := 1) rfl))) (fun x7 ex7 h => ?_)
    refine L.y rfl (Y.loadE1 (u := gv (q3 a2.toNat) 0) ag25 rfl (fun w hw => As.at_ (hw.get (i := 1) rfl)) (zr_idx (vs := q3) ex7)) ?_
    obtain ⟨l8, e10, h⟩ := bind1S h
    refine L.does rfl en25 rfl (fun w' hw => w25_slices_Clone_int x7 (gv (q3 a2.toNat) 0) w' _ e10 (As.atZ (sds := (svSd 3 1 I)) (vs := q3) (j := 0) (c := 1) (hw.get (i := 2) rfl) (fun _ _ => rfl) ex7 rfl)) ?_
    rintro v9 _ ⟨_, rfl, rfl⟩
    refine L.y rfl (Y.assign rfl) ?_
    refine L.nil (E.thenN (W.seqJ (fun gs D => ∃ (gl1 : (List Int)), gs = [(10, (sv b6 a0.toNat))] ∧ D = Cls w [] [.sl (sv b6 a0.toNat) 3 1 (gl1.map I)] ∧ m8_graph_Reach_K3 gl1 = some r) ?_ ?_))
    ·
     refine W.block (W.loopJ (fun m gs D => ∃ (gl7 : (List Int)) (gv8 : Value) (gl9 : (List Int)), gs = [(9, v2), (10, (sv b6 a0.toNat)), (11, gv8)] ∧ D = Cls w [] [.sl v2 25 1 (zr svRow q3 l1), .ss (zs (svSd 3 1 I) q3 l1), .sl (sv b6 a0.toNat) 3 1 (gl7.map I), .tl gv8 3 1 (gl9.map I)] ∧ m8_graph_Reach_L2 l1 m gl7 gl9 = some r) ⟨l5, v9, l8, rfl, rfl, h⟩ ⟨rfl, rfl, rfl, trivial⟩ (fun _ hw => (hw.slTl (i := 0) rfl).sel [2, 3, 1, 0] (by decide) rfl) ?_)
     rintro m _ _ ⟨gl7, gv8, gl9, rfl, rfl, h⟩
     rcases m with _ | m
     · rw [m8_graph_Reach_L2] at h; cases h
     rw [m8_graph_Reach_L2] at h
     generalize hg2 : m8_graph_Reach_L2 l1 m = go2 at h
     rw [m8_graph_Reach_L2B] at h
     refine W.seqJ (fun gs D => gs = [(9, v2), (10, (sv b6 a0.toNat)), (11, gv8)] ∧ D = Cls w [] [.sl v2 25 1 (zr svRow q3 l1), .ss (zs (svSd 3 1 I) q3 l1), .sl (sv b6 a0.toNat) 3 1 (gl7.map I), .tl gv8 3 1 (gl9.map I)] ∧ m8_graph_Reach_K5 gl9 gl7 l1 go2 = some r) ?_ ?_
     ·
      refine W.seq (W.region (L.y rfl (Y.move rfl) ?_))
      refine L.y rfl (Y.lenM (g := I) (l := gl9) Try.underlying25 rfl (fun w hw => As.atTl (hw.get (i := 3) rfl))) ?_
      refine L.ite h rfl (Y.gtr rfl rfl) (fun c28 h => ?_) (fun c28 h => ?_)
      ·
       refine L.nil (E.thenN (W.condT rfl ?_))
       exact W.skip (E.joinJ ⟨rfl, rfl, h⟩ ⟨rfl, rfl, rfl, trivial⟩ (fun _ hw => hw))
      ·
       refine L.nil (E.thenN (W.condF rfl ?_))
       exact W.exit (E.KSX (E.KLX (E.blockX (E.joinJ ⟨gl7, rfl, rfl, h⟩ ⟨rfl, trivial⟩ (fun _ hw => hw.sel [2] (by decide) rfl)))))
     ·
      rintro _ _ ⟨rfl, rfl, h⟩
      rw [m8_graph_Reach_K5] at h
      refine W.block (W.seq (W.region (L.y rfl (Y.move rfl) ?_)))
      refine L.m (V := fun _ => el gv8 ((0 : Int).toNat * 1)) h rfl (Y.indexM (g := I) (l := gl9) Try.underlying25 sz3 rfl rfl (fun w hw => As.atTl (hw.get (i := 3) rfl))) (fun x19 ex19 h => ?_)
      refine L.y rfl (Y.loadE1 (u := .int .i64 x19) ag3 rfl (fun w hw => As.atTl (hw.get (i := 3) rfl)) (idx_map ex19)) ?_
      refine L.y rfl (Y.assign rfl) ?_
      refine L.nil (E.thenN (W.seq (W.region (L.y rfl (Y.move rfl) ?_))))
      refine L.m (V := fun _ => (dropv gv8 (1 : Int).toNat 1)) h rfl (Y.dropM (g := I) Try.underlying25 sz3 rfl rfl (fun w hw => As.atTl (hw.get (i := 3) rfl))) (fun l20 el20 h => ?_)
      refine L.to (fun _ hw => hw.tlDropM (i := 3) el20 rfl) ?_
      refine L.to (D := Cls w [] [.sl v2 25 1 (zr svRow q3 l1), .ss (zs (svSd 3 1 I) q3 l1), .sl (sv b6 a0.toNat) 3 1 (gl7.map I), .tl (dropv gv8 (1 : Int).toNat 1) 3 1 (l20.map I)]) (fun _ hw => hw) ?_
      refine L.y rfl (Y.assign rfl) ?_
      refine L.nil (E.thenN (W.seq (W.region (L.y rfl (Y.move rfl) ?_))))
      refine L.y rfl (Y.move rfl) ?_
      refine L.m (V := fun _ => el (sv b6 a0.toNat) (x19.toNat * 1)) h rfl (Y.indexM (g := I) (l := gl7) Try.underlying25 sz3 rfl rfl (fun w hw => As.at_ (hw.get (i := 2) rfl))) (fun x21 ex21 h => ?_)
      refine L.y rfl (Y.loadE1 (u := .int .i64 x21) ag3 rfl (fun w hw => As.at_ (hw.get (i := 2) rfl)) (idx_map ex21)) ?_
      refine L.ite h rfl (Y.eql rfl rfl) (fun c22 h => ?_) (fun c22 h => ?_)
      ·
       refine L.nil (E.thenN (W.condT rfl ?_))
       refine W.seq (W.region (L.y rfl (Y.move rfl) ?_))
       refine L.y rfl (Y.move rfl) ?_
       refine L.m (V := fun _ => el (sv b6 a0.toNat) (x19.toNat * 1)) h rfl (Y.indexM (g := I) (l := gl7) Try.underlying25 sz3 rfl rfl (fun w hw => As.at_ (hw.get (i := 2) rfl))) (fun x23 ex23 h => ?_)
       refine L.storeSlM (q := 2) (row := I) (vs := [.int .i64 1]) (j := 0) (u1 := 1) h sz3 rfl rfl rfl rfl rfl (all1 rfl all0) rfl ex23 rfl rfl ?_
       intro l24 el24 h
       refine L.nil (E.thenN (W.region (L.y rfl (Y.move rfl) ?_)))
       refine L.y rfl (Y.move rfl) ?_
       refine L.y rfl (Y.move rfl) ?_
       refine L.m (V := fun _ => el v2 (x19.toNat * 1)) h rfl (Y.indexMZ (row := svRow) (vs := q3) (l := l1) Try.underlying28 sz25 rfl rfl (fun w hw => As.at_ (hw.get (i := 0) rfl))) (fun x25 ex25 h => ?_)
       refine L.y rfl (Y.loadE1 (u := gv (q3 x19.toNat) 0) ag25 rfl (fun w hw => As.at_ (hw.get (i := 0) rfl)) (zr_idx (vs := q3) ex25)) ?_
       refine L.appTl (i := 3) (g := I) (l := l20) (more := x25) h rfl Try.underlying25 eL3 rfl rfl rfl (fun w hw => As.atZ (sds := (svSd 3 1 I)) (vs := q3) (j := 0) (c := 1) (hw.get (i := 1) rfl) (fun _ _ => rfl) ex25 rfl) (plain_ints _) rfl ?_
       intro v26 l27 el27 h
       refine L.y rfl (Y.assign rfl) ?_
       exact L.nil (E.blockN (E.againJ ⟨l24, v26, l27, rfl, rfl, by rw [hg2]; exact h⟩ (Nat.lt_succ_self _) ⟨rfl, rfl, rfl, trivial⟩ (fun _ hw => hw.sel [1, 2, 3, 0] (by decide) rfl)))
      ·
       refine L.nil (E.thenN (W.condF rfl ?_))
       exact W.skip (E.blockN (E.againJ ⟨gl7, (dropv gv8 (1 : Int).toNat 1), l20, rfl, rfl, by rw [hg2]; exact h⟩ (Nat.lt_succ_self _) ⟨rfl, rfl, rfl, trivial⟩ (fun _ hw => hw)))
    ·
     rintro _ _ ⟨gl1, rfl, rfl, h⟩
     rw [m8_graph_Reach_K3] at h
     refine W.seq (W.region (L.y rfl (Y.assign rfl) ?_))
     refine L.nil (E.thenN (W.seqJ (fun gs D => ∃ (gv2 : Value) (gl3 : (List Int)), gs = [(13, gv2)] ∧ D = Cls w [] [.sl gv2 3 1 (gl3.map I)] ∧ m8_graph_Reach_K4 gl3 = some r) ?_ ?_))
     ·
      refine W.seq (W.region (L.y rfl (Y.move rfl) ?_))
      refine L.y rfl (Y.lenM (g := I) (l := gl1) Try.underlying25 rfl (fun w hw => As.at_ (hw.get (i := 0) rfl))) ?_
      refine L.y rfl (Y.move rfl) ?_
      refine L.nil (E.thenN (W.block (W.nilSl 3 1 ?_)))
      refine W.loopJ (fun m gs D => ∃ (gv4 : Value) (gl5 : (List Int)) (gx6 : Int), gs = [(13, gv4), (61, (sv b6 a0.toNat)), (62, .int .i64 (gl1.length : Int)), (63, .int .i64 gx6)] ∧ D = Cls w [] [.sl gv4 3 1 (gl5.map I), .sl (sv b6 a0.toNat) 3 1 (gl1.map I)] ∧ m8_graph_Reach_L1 gl1 m gl5 gx6 = some r) ⟨.slice none 0 0, [], 0, rfl, rfl, h⟩ ⟨rfl, rfl, rfl, rfl, trivial⟩ (fun _ hw => hw) ?_
      rintro m _ _ ⟨gv4, gl5, gx6, rfl, rfl, h⟩
      rcases m with _ | m
      · rw [m8_graph_Reach_L1] at h; cases h
      rw [m8_graph_Reach_L1] at h
      generalize hg1 : m8_graph_Reach_L1 gl1 m = go1 at h
      rw [m8_graph_Reach_L1B] at h
      refine W.seq (W.region (L.ite h rfl (Y.lss rfl rfl) (fun c11 h => ?_) (fun c11 h => ?_)))
      ·
       refine L.nil (E.thenN (W.seq (W.condT rfl ?_)))
       refine W.skip (E.thenN (W.seq (W.block (W.seq (W.region (L.y rfl (Y.move rfl) ?_))))))
       refine L.m (V := fun _ => el (sv b6 a0.toNat) (gx6.toNat * 1)) h rfl (Y.indexM (g := I) (l := gl1) Try.underlying25 sz3 rfl rfl (fun w hw => As.at_ (hw.get (i := 1) rfl))) (fun x12 ex12 h => ?_)
       refine L.y rfl (Y.loadE1 (u := .int .i64 x12) ag3 rfl (fun w hw => As.at_ (hw.get (i := 1) rfl)) (idx_map ex12)) ?_
       refine L.y rfl (Y.assign rfl) ?_
       refine L.y rfl (Y.assign rfl) ?_
       refine L.nil (E.thenN (W.seq (W.region (L.y rfl (Y.move rfl) ?_))))
       refine L.ite h rfl (Y.eql rfl rfl) (fun c13 h => ?_) (fun c13 h => ?_)
       ·
        refine L.nil (E.thenN (W.condT rfl ?_))
        refine W.region (L.y rfl (Y.move rfl) ?_)
        refine L.y rfl (Y.move rfl) ?_
        refine L.litOne rfl Try.underlying25 eL3 rfl rfl ?_
        intro b14
        refine L.appM (i := 1) (g := I) (l := gl5) (more := [gx6]) h rfl Try.underlying25 eL3 rfl rfl rfl (fun w hw => As.at_ (hw.get (i := 0) rfl)) (plain_ints _) rfl ?_
        intro v15 l16 el16 h
        refine L.y rfl (Y.assign rfl) ?_
        refine L.nil (E.blockN (E.thenN (W.region (L.m (V := fun x17 => .int .i64 x17) h rfl (Y.addM rfl rfl) (fun x17 ex17 h => ?_)))))
        refine L.y rfl (Y.move rfl) ?_
        exact L.nil (E.againJ ⟨v15, l16, x17, rfl, rfl, by rw [hg1]; exact h⟩ (Nat.lt_succ_self _) ⟨rfl, rfl, rfl, rfl, trivial⟩ (fun _ hw => hw.sel [0, 2] (by decide) rfl))
       ·
        refine L.nil (E.thenN (W.condF rfl ?_))
        refine W.skip (E.blockN (E.thenN (W.region (L.m (V := fun x18 => .int .i64 x18) h rfl (Y.addM rfl rfl) (fun x18 ex18 h => ?_)))))
        refine L.y rfl (Y.move rfl) ?_
        exact L.nil (E.againJ ⟨gv4, gl5, x18, rfl, rfl, by rw [hg1]; exact h⟩ (Nat.lt_succ_self _) ⟨rfl, rfl, rfl, rfl, trivial⟩ (fun _ hw => hw))
      ·
       refine L.nil (E.thenN (W.seq (W.condF rfl ?_)))
       exact W.exit (E.thenX (E.KLX (E.blockX (E.joinJ ⟨gv4, gl5, rfl, rfl, h⟩ ⟨rfl, trivial⟩ (fun _ hw => hw.sel [0] (by decide) rfl)))))
     ·
      rintro _ _ ⟨gv2, gl3, rfl, rfl, h⟩
      rw [m8_graph_Reach_K4] at h
      refine W.seq (W.region (L.y rfl (Y.move rfl) ?_))
      refine L.y rfl (Y.assign rfl) ?_
      refine L.y rfl (Y.assign rfl) ?_
      refine L.nil (E.thenN (W.ret (E.ret2 rfl rfl rfl (fun w1 hw => ?_))))
      obtain rfl := Option.some.inj h
      exact ⟨_, _, rfl, ⟨_, rfl, rfl⟩, hw⟩
set_option maxRecDepth 100000 in
set_option maxHeartbeats 8000000 in
theorem w14_quirref_Closure (a0 : Int) (a1 : (List TEdge)) (u1 : Value) (w : World) (r : (List (List Bool))) (h : m14_quirref_Closure a0 a1 = some r) (hA1 : At w u1 2 (a1.map TEdge.row)) : Does Try.prog 14 [.int .i64 a0, u1] w fun u m => ∃ v0 q0, u = v0 ∧ m = [.sl v0 37 1 (zr svRow q0 r), .ss (zs (svSd 4 1 B) q0 r)] := by
  rw [m14_quirref_Closure] at h
  refine body (n := 87) Try.func14 rfl rfl rfl (Cls.refl w) ?_
  refine W.seq (W.region (L.y rfl (Y.assign rfl) ?_))
  refine L.nil (E.thenN (W.seq (W.region (L.y rfl (Y.move rfl) ?_))))
  obtain ⟨l1, el1, h⟩ := bind1S h
  refine L.makeZ (row := svRow) (sds := (svSd 4 1 B)) (nv := [nilV]) (z0 := ([] : (List Bool))) el1 rfl Try.underlying38 eL37 ze37 rfl rfl rfl (gall1 rfl rfl gall0) ?_
  intro b2
  refine L.y rfl (Y.assign rfl) ?_
  refine L.nil (E.thenN (W.seqJ (fun gs D => ∃ (gl1 : (List (List Bool))) (gq2 : Nat → List Value), gs = [(0, .int .i64 a0), (1, u1), (5, (sv b2 a0.toNat))] ∧ D = Cls w [] [.sl (sv b2 a0.toNat) 37 1 (zr svRow gq2 gl1), .ss (zs (svSd 4 1 B) gq2 gl1)] ∧ m14_quirref_Closure_K1 a1 a0 gl1 = some r) ?_ ?_))
  ·
   refine W.seq (W.region (L.y rfl (Y.move rfl) ?_))
   refine L.y rfl (Y.lenMZ (row := svRow) (vs := (fun _ => [nilV])) (l := l1) Try.underlying38 rfl (fun w hw => As.at_ (hw.get (i := 0) rfl))) ?_
   refine L.y rfl (Y.move rfl) ?_
   refine L.nil (E.thenN (W.block (W.loopJ (fun m gs D => ∃ (gl15 : (List (List Bool))) (gq16 : Nat → List Value) (gx17 : Int), gs = [(0, .int .i64 a0), (1, u1), (5, (sv b2 a0.toNat)), (15, .int .i64 (l1.length : Int)), (16, .int .i64 gx17)] ∧ D = Cls w [] [.sl (sv b2 a0.toNat) 37 1 (zr svRow gq16 gl15), .ss (zs (svSd 4 1 B) gq16 gl15)] ∧ m14_quirref_Closure_L5 l1 a0 a1 m gl15 gx17 = some r) ⟨l1, (fun _ => [nilV]), 0, rfl, rfl, h⟩ ⟨rfl, rfl, rfl, rfl, rfl, trivial⟩ (fun _ hw => hw) ?_)))
   rintro m _ _ ⟨gl15, gq16, gx17, rfl, rfl, h⟩
   rcases m with _ | m
   · rw [m14_quirref_Closure_L5] at h; cases h
   rw [m14_quirref_Closure_L5] at h
   generalize hg5 : m14_quirref_Closure_L5 l1 a0 a1 m = go5 at h
   rw [m14_quirref_Closure_L5B] at h
   refine W.seq (W.region (L.ite h rfl (Y.lss rfl rfl) (fun c59 h => ?_) (fun c59 h => ?_)))
   ·
    refine L.nil (E.thenN (W.seq (W.condT rfl ?_)))
    refine W.skip (E.thenN (W.seq (W.block (W.seq (W.region (L.y rfl (Y.move rfl) ?_))))))
    refine L.y rfl (Y.assign rfl) ?_
    refine L.nil (E.thenN (W.region (L.y rfl (Y.move rfl) ?_)))
    refine L.y rfl (Y.move rfl) ?_
    refine L.y rfl (Y.move rfl) ?_
    obtain ⟨l60, el60, h⟩ := bind1S h
    refine L.makeE (row := B) (z0 := false) el60 rfl Try.underlying37 eL4 ze4 rfl rfl rfl ?_
    intro b61
    refine L.m (V := fun _ => el (sv b2 a0.toNat) (gx17.toNat * 1)) h rfl (Y.indexMZ (row := svRow) (vs := gq16) (l := gl15) Try.underlying38 sz37 rfl rfl (fun w hw => As.at_ (hw.get (i := 1) rfl))) (fun x62 ex62 h => ?_)
    refine L.storeSlZS (row := svRow) (sds := (svSd 4 1 B)) (vs := gq16) (q := 1) (p := 0) (s := 2) (c := 1) (jj := 0) (u1 := l60) (v1 := [(sv b61 a0.toNat)]) (j := 0) h sz37 rfl rfl rfl rfl rfl rfl (.inl rfl) (fun _ _ => rfl) (fun _ _ => rfl) ex62 rfl rfl rfl rfl (by decide) ?_
    intro l63 q64 el63 h
    refine L.nil (E.blockN (E.thenN (W.region (L.m (V := fun x65 => .int .i64 x65) h rfl (Y.addM rfl rfl) (fun x65 ex65 h => ?_)))))
    refine L.y rfl (Y.move rfl) ?_
    exact L.nil (E.againJ ⟨l63, q64, x65, rfl, rfl, by rw [hg5]; exact h⟩ (Nat.lt_succ_self _) ⟨rfl, rfl, rfl, rfl, rfl, trivial⟩ (fun _ hw => hw))
   ·
    refine L.nil (E.thenN (W.seq (W.condF rfl ?_)))
    exact W.exit (E.thenX (E.KLX (E.blockX (E.joinJ ⟨gl15, gq16, rfl, rfl, h⟩ ⟨rfl, rfl, rfl, trivial⟩ (fun _ hw => hw)))))
  ·
   rintro _ _ ⟨gl1, gq2, rfl, rfl, h⟩
   rw [m14_quirref_Closure_K1] at h
   refine W.seqJ (fun gs D => ∃ (gl3 : (List (List Bool))), gs = [(0, .int .i64 a0), (5, (sv b2 a0.toNat))] ∧ D = Cls w [] [.sl (sv b2 a0.toNat) 37 1 (zr svRow gq2 gl3), .ss (zs (svSd 4 1 B) gq2 gl3)] ∧ m14_quirref_Closure_K2 a0 gl3 = some r) ?_ ?_
   ·
    refine W.seq (W.region (L.y rfl (Y.move rfl) ?_))
    refine L.y rfl (Y.lenM (g := TEdge.row) (l := a1) Try.underlying22 rfl (fun w' hw => hA1.cls0 hw)) ?_
    refine L.y rfl (Y.move rfl) ?_
    refine L.nil (E.thenN (W.block (W.loopJ (fun m gs D => ∃ (gl13 : (List (List Bool))) (gx14 : Int), gs = [(0, .int .i64 a0), (5, (sv b2 a0.toNat)), (25, u1), (26, .int .i64 (a1.length : Int)), (27, .int .i64 gx14)] ∧ D = Cls w [] [.sl (sv b2 a0.toNat) 37 1 (zr svRow gq2 gl13), .ss (zs (svSd 4 1 B) gq2 gl13)] ∧ m14_quirref_Closure_L4 a1 a0 m gl13 gx14 = some r) ⟨gl1, 0, rfl, rfl, h⟩ ⟨rfl, rfl, rfl, rfl, rfl, trivial⟩ (fun _ hw => hw) ?_)))
    rintro m _ _ ⟨gl13, gx14, rfl, rfl, h⟩
    rcases m with _ | m
    · rw [m14_quirref_Closure_L4] at h; cases h
    rw [m14_quirref_Closure_L4] at h
    generalize hg4 : m14_quirref_Closure_L4 a1 a0 m = go4 at h
    rw [m14_quirref_Closure_L4B] at h
    refine W.seq (W.region (L.ite h rfl (Y.lss rfl rfl) (fun c43 h => ?_) (fun c43 h => ?_)))
    ·
     refine L.nil (E.thenN (W.seq (W.condT rfl ?_)))
     refine W.skip (E.thenN (W.seq (W.block (W.seq (W.region (L.m (V := fun _ => el u1 (gx14.toNat * 2)) h rfl (Y.indexM (g := TEdge.row) (l := a1) Try.underlying22 sz46 rfl rfl (fun w' hw => hA1.cls0 hw)) (fun x44 ex44 h => ?_)))))))
     refine L.y rfl (Y.loadEN (r := [.int .i64 x44.From, .int .i64 x44.To]) ag46 sz46 rfl (fun w' hw => hA1.cls0 hw) (idx_map ex44) rfl) ?_
     refine L.alloc rfl ze46 ?_
     intro b45
     refine L.store (i := 0) (vs := [.int .i64 x44.From, .int .i64 x44.To]) sz46 rfl rfl rfl rfl (by simp [Value.oneCell', Value.cells, st, pt, el]) rfl (Nat.le_of_ble_eq_true rfl) ?_
     refine L.nil (E.thenN (W.drawn2 (k := 9) (stC [[8]] [Cls w [] [.obj b45 [.int .i64 x44.From, .int .i64 x44.To] 46, .sl (sv b2 a0.toNat) 37 1 (zr svRow gq2 gl13), .ss (zs (svSd 4 1 B) gq2 gl13)]] (Cls w [] [.obj b45 [.int .i64 x44.From, .int .i64 x44.To] 46])) rfl mixed (fun _ hw => hw.drew) (Sc.now (by kernel_rfl) (fun _ hw => hw)) ?_))
     refine V2.y (i := 0) (Nx2.of (Z := Cls w [] [.obj b45 [.int .i64 x44.From, .int .i64 x44.To] 46]) [] (by kernel_rfl) rfl (Zc.on (fun _ hw => hw.sel [0] (by decide) rfl) (Zc.fin (fun _ hw => hw)))) rfl rfl rfl (Y.move rfl) ?_
     refine V2.y (i := 1) (Nx2.of (Z := Cls w [] [.obj b45 [.int .i64 x44.From, .int .i64 x44.To] 46]) [] (by kernel_rfl) rfl (Zc.on (fun _ hw => hw.sel [0] (by decide) rfl) (Zc.fin (fun _ hw => hw)))) rfl rfl rfl (Y.fieldP fd46_0 rfl) ?_
     refine V2.y (i := 2) (Nx2.of (Z := Cls w [] [.obj b45 [.int .i64 x44.From, .int .i64 x44.To] 46]) [] (by kernel_rfl) rfl (Zc.on (fun _ hw => hw.sel [0] (by decide) rfl) (Zc.fin (fun _ hw => hw)))) rfl rfl rfl (Y.loadP (i := 0) ag3 rfl rfl rfl) ?_
     refine V2.m (i := 3) (V' := fun _ => el (sv b2 a0.toNat) (x44.From.toNat * 1)) h (Nx2.of (Z := Cls w [] [.obj b45 [.int .i64 x44.From, .int .i64 x44.To] 46, .sl (sv b2 a0.toNat) 37 1 (zr svRow gq2 gl13), .ss (zs (svSd 4 1 B) gq2 gl13)]) [8] (by kernel_rfl) rfl (Zc.at1 (fun _ hw => hw))) rfl rfl rfl (Y.indexMZ (row := svRow) (vs := gq2) (l := gl13) Try.underlying38 sz37 rfl rfl (fun w hw => As.at_ (hw.get (i := 1) rfl))) (fun x54 ex54 h => ?_)
     refine V2.y (i := 4) (Nx2.of (Z := Cls w [] [.obj b45 [.int .i64 x44.From, .int .i64 x44.To] 46, .sl (sv b2 a0.toNat) 37 1 (zr svRow gq2 gl13), .ss (zs (svSd 4 1 B) gq2 gl13)]) [8] (by kernel_rfl) rfl (Zc.at1 (fun _ hw => hw))) rfl rfl rfl (Y.loadE1 (u := gv (gq2 x44.From.toNat) 0) ag37 rfl (fun w hw => As.at_ (hw.get (i := 1) rfl)) (zr_idx (vs := gq2) ex54)) ?_
     refine V2.y (i := 5) (Nx2.of (Z := Cls w [] [.obj b45 [.int .i64 x44.From, .int .i64 x44.To] 46]) [] (by kernel_rfl) rfl (Zc.on (fun _ hw => hw.sel [0] (by decide) rfl) (Zc.fin (fun _ hw => hw)))) rfl rfl rfl (Y.fieldP fd46_1 rfl) ?_
     refine V2.y (i := 6) (Nx2.of (Z := Cls w [] [.obj b45 [.int .i64 x44.From, .int .i64 x44.To] 46]) [] (by kernel_rfl) rfl (Zc.on (fun _ hw => hw.sel [0] (by decide) rfl) (Zc.fin (fun _ hw => hw)))) rfl rfl rfl (Y.loadP (i := 0) ag3 rfl rfl rfl) ?_
     refine V2.m (i := 7) (V' := fun _ => el (gv (gq2 x44.From.toNat) 0) (x44.To.toNat * 1)) h (Nx2.of (Z := Cls w [] [.obj b45 [.int .i64 x44.From, .int .i64 x44.To] 46, .sl (sv b2 a0.toNat) 37 1 (zr svRow gq2 gl13), .ss (zs (svSd 4 1 B) gq2 gl13)]) [8] (by kernel_rfl) rfl (Zc.at1 (fun _ hw => hw))) rfl rfl rfl (Y.indexM (g := B) (l := x54) Try.underlying37 sz4 rfl rfl (fun w hw => As.atZ (sds := (svSd 4 1 B)) (vs := gq2) (j := 0) (c := 1) (hw.get (i := 2) rfl) (fun _ _ => rfl) ex54 rfl)) (fun x55 ex55 h => ?_)
     refine V2.eff (i := 8) (by kernel_rfl) rfl ?_
     refine L.ssOut (sds := (svSd 4 1 B)) (vs := gq2) (s := 2) (j := 0) (c := 1) rfl (fun _ _ => rfl) ex54 rfl ?_
     refine L.storeSlM (q := 0) (row := B) (vs := [.bool true]) (j := 0) (u1 := true) h sz4 rfl rfl rfl rfl rfl (all1 rfl all0) rfl ex55 rfl rfl ?_
     intro l56 el56 h
     refine L.ssBack (row := svRow) (sds := (svSd 4 1 B)) (vs := gq2) (p := 0) (s := 3) (q := 2) (c := 1) (jj := 0) (u1 := l56) (fun z => .sl (sv b2 a0.toNat) 37 1 z) h rfl rfl rfl (fun _ _ => rfl) ex54 rfl rfl rfl ?_
     intro l57 el57 h
     refine L.nil (E.toV2 (stC [] [] (Cls w [] [.obj b45 [.int .i64 x44.From, .int .i64 x44.To] 46])) 8 (by kernel_rfl) (Sc.past rfl (Sc.stayD (fun _ hw => hw))) (Sc.atD (fun _ hw => hw.sel [0] (by decide) rfl)) ?_)
     refine V2.done (by kernel_rfl) ?_
     refine E.blockN (E.thenN (W.region (L.m (V := fun x58 => .int .i64 x58) h rfl (Y.addM rfl rfl) (fun x58 ex58 h => ?_))))
     refine L.y rfl (Y.move rfl) ?_
     exact L.nil (E.againJ ⟨l57, x58, rfl, rfl, by rw [hg4]; exact h⟩ (Nat.lt_succ_self _) ⟨rfl, rfl, rfl, rfl, rfl, trivial⟩ (fun _ hw => hw.sel [1, 2] (by decide) rfl))
    ·
     refine L.nil (E.thenN (W.seq (W.condF rfl ?_)))
     exact W.exit (E.thenX (E.KLX (E.blockX (E.joinJ ⟨gl13, rfl, rfl, h⟩ ⟨rfl, rfl, trivial⟩ (fun _ hw => hw)))))
   ·
    rintro _ _ ⟨gl3, rfl, rfl, h⟩
    rw [m14_quirref_Closure_K2] at h
    refine W.seqJ (fun gs D => ∃ (gl4 : (List (List Bool))), gs = [(5, (sv b2 a0.toNat))] ∧ D = Cls w [] [.sl (sv b2 a0.toNat) 37 1 (zr svRow gq2 gl4), .ss (zs (svSd 4 1 B) gq2 gl4)] ∧ m14_quirref_Closure_K3 gl4 = some r) ?_ ?_
    ·
     refine W.seq (W.region (L.y rfl (Y.move rfl) ?_))
     refine L.y rfl (Y.move rfl) ?_
     refine L.nil (E.thenN (W.block (W.loopJ (fun m gs D => ∃ (gl5 : (List (List Bool))) (gx6 : Int), gs = [(0, .int .i64 a0), (5, (sv b2 a0.toNat)), (40, .int .i64 a0), (41, .int .i64 gx6)] ∧ D = Cls w [] [.sl (sv b2 a0.toNat) 37 1 (zr svRow gq2 gl5), .ss (zs (svSd 4 1 B) gq2 gl5)] ∧ m14_quirref_Closure_L1 a0 m gl5 gx6 = some r) ⟨gl3, 0, rfl, rfl, h⟩ ⟨rfl, rfl, rfl, rfl, trivial⟩ (fun _ hw => hw) ?_)))
     rintro m _ _ ⟨gl5, gx6, rfl, rfl, h⟩
     rcases m with _ | m
     · rw [m14_quirref_Closure_L1] at h; cases h
     rw [m14_quirref_Closure_L1] at h
     generalize hg1 : m14_quirref_Closure_L1 a0 m = go1 at h
     rw [m14_quirref_Closure_L1B] at h
     refine W.seq (W.region (L.ite h rfl (Y.lss rfl rfl) (fun c3 h => ?_) (fun c3 h => ?_)))
     ·
      refine L.nil (E.thenN (W.seq (W.condT rfl ?_)))
      refine W.skip (E.thenN (W.seqJ (fun gs D => ∃ (gl7 : (List (List Bool))), gs = [(0, .int .i64 a0), (5, (sv b2 a0.toNat)), (40, .int .i64 a0), (41, .int .i64 gx6)] ∧ D = Cls w [] [.sl (sv b2 a0.toNat) 37 1 (zr svRow gq2 gl7), .ss (zs (svSd 4 1 B) gq2 gl7)] ∧ m14_quirref_Closure_K4 gx6 go1 gl7 = some r) ?_ ?_))
      ·
       refine W.block (W.seq (W.region (L.y rfl (Y.move rfl) ?_)))
       refine L.y rfl (Y.assign rfl) ?_
       refine L.nil (E.thenN (W.seq (W.region (L.y rfl (Y.move rfl) ?_))))
       refine L.y rfl (Y.move rfl) ?_
       refine L.nil (E.thenN (W.block (W.loopJ (fun m gs D => ∃ (gl8 : (List (List Bool))) (gx9 : Int), gs = [(0, .int .i64 a0), (5, (sv b2 a0.toNat)), (9, .int .i64 gx6), (40, .int .i64 a0), (41, .int .i64 gx6), (44, .int .i64 a0), (45, .int .i64 gx9)] ∧ D = Cls w [] [.sl (sv b2 a0.toNat) 37 1 (zr svRow gq2 gl8), .ss (zs (svSd 4 1 B) gq2 gl8)] ∧ m14_quirref_Closure_L2 a0 gx6 go1 m gl8 gx9 = some r) ⟨gl5, 0, rfl, rfl, h⟩ ⟨rfl, rfl, rfl, rfl, rfl, rfl, rfl, trivial⟩ (fun _ hw => hw) ?_)))
       rintro m _ _ ⟨gl8, gx9, rfl, rfl, h⟩
       rcases m with _ | m
       · rw [m14_quirref_Closure_L2] at h; cases h
       rw [m14_quirref_Closure_L2] at h
       generalize hg2 : m14_quirref_Closure_L2 a0 gx6 go1 m = go2 at h
       rw [m14_quirref_Closure_L2B] at h
       refine W.seq (W.region (L.ite h rfl (Y.lss rfl rfl) (fun c5 h => ?_) (fun c5 h => ?_)))
       ·
        refine L.nil (E.thenN (W.seq (W.condT rfl ?_)))
        refine W.skip (E.thenN (W.seqJ (fun gs D => ∃ (gl10 : (List (List Bool))), gs = [(0, .int .i64 a0), (5, (sv b2 a0.toNat)), (9, .int .i64 gx6), (40, .int .i64 a0), (41, .int .i64 gx6), (44, .int .i64 a0), (45, .int .i64 gx9)] ∧ D = Cls w [] [.sl (sv b2 a0.toNat) 37 1 (zr svRow gq2 gl10), .ss (zs (svSd 4 1 B) gq2 gl10)] ∧ m14_quirref_Closure_K5 gx9 go2 gl10 = some r) ?_ ?_))
        ·
         refine W.block (W.seq (W.region (L.y rfl (Y.move rfl) ?_)))
         refine L.y rfl (Y.assign rfl) ?_
         refine L.nil (E.thenN (W.seq (W.region (L.y rfl (Y.move rfl) ?_))))
         refine L.y rfl (Y.move rfl) ?_
         refine L.nil (E.thenN (W.block (W.loopJ (fun m gs D => ∃ (gl11 : (List (List Bool))) (gx12 : Int), gs = [(0, .int .i64 a0), (5, (sv b2 a0.toNat)), (9, .int .i64 gx6), (10, .int .i64 gx9), (40, .int .i64 a0), (41, .int .i64 gx6), (44, .int .i64 a0), (45, .int .i64 gx9), (48, .int .i64 a0), (49, .int .i64 gx12)] ∧ D = Cls w [] [.sl (sv b2 a0.toNat) 37 1 (zr svRow gq2 gl11), .ss (zs (svSd 4 1 B) gq2 gl11)] ∧ m14_quirref_Closure_L3 a0 gx9 gx6 go2 m gl11 gx12 = some r) ⟨gl8, 0, rfl, rfl, h⟩ ⟨rfl, rfl, rfl, rfl, rfl, rfl, rfl, rfl, rfl, rfl, trivial⟩ (fun _ hw => hw) ?_)))
         rintro m _ _ ⟨gl11, gx12, rfl, rfl, h⟩
         rcases m with _ | m
         · rw [m14_quirref_Closure_L3] at h; cases h
         rw [m14_quirref_Closure_L3] at h
         generalize hg3 : m14_quirref_Closure_L3 a0 gx9 gx6 go2 m = go3 at h
         rw [m14_quirref_Closure_L3B] at h
         refine W.seq (W.region (L.ite h rfl (Y.lss rfl rfl) (fun c7 h => ?_) (fun c7 h => ?_)))
         ·
          refine L.nil (E.thenN (W.seq (W.condT rfl ?_)))
          refine W.skip (E.thenN (W.seq (W.block (W.seq (W.region (L.y rfl (Y.move rfl) ?_))))))
          refine L.y rfl (Y.assign rfl) ?_
          refine L.nil (E.thenN (W.drawn2 (k := 32) (stC [[31]] [Cls w [] [.sl (sv b2 a0.toNat) 37 1 (zr svRow gq2 gl11), .ss (zs (svSd 4 1 B) gq2 gl11)]] (Cls w [] [])) rfl mixed (fun _ hw => hw.drew) (Sc.now (by kernel_rfl) (fun _ hw => hw)) ?_))
          refine V2.y (i := 0) (Nx2.of (Z := Cls w [] []) [] (by kernel_rfl) rfl (Zc.on (fun _ hw => hw.sel [] (by decide) rfl) (Zc.fin (fun _ hw => hw)))) rfl rfl rfl (Y.move rfl) ?_
          refine V2.y (i := 1) (Nx2.of (Z := Cls w [] []) [] (by kernel_rfl) rfl (Zc.on (fun _ hw => hw.sel [] (by decide) rfl) (Zc.fin (fun _ hw => hw)))) rfl rfl rfl (Y.move rfl) ?_
          refine V2.m (i := 2) (V' := fun _ => el (sv b2 a0.toNat) (gx9.toNat * 1)) h (Nx2.of (Z := Cls w [] [.sl (sv b2 a0.toNat) 37 1 (zr svRow gq2 gl11), .ss (zs (svSd 4 1 B) gq2 gl11)]) [31] (by kernel_rfl) rfl (Zc.at1 (fun _ hw => hw))) rfl rfl rfl (Y.indexMZ (row := svRow) (vs := gq2) (l := gl11) Try.underlying38 sz37 rfl rfl (fun w hw => As.at_ (hw.get (i := 0) rfl))) (fun x22 ex22 h => ?_)
          refine V2.y (i := 3) (Nx2.of (Z := Cls w [] [.sl (sv b2 a0.toNat) 37 1 (zr svRow gq2 gl11), .ss (zs (svSd 4 1 B) gq2 gl11)]) [31] (by kernel_rfl) rfl (Zc.at1 (fun _ hw => hw))) rfl rfl rfl (Y.loadE1 (u := gv (gq2 gx9.toNat) 0) ag37 rfl (fun w hw => As.at_ (hw.get (i := 0) rfl)) (zr_idx (vs := gq2) ex22)) ?_
          refine V2.y (i := 4) (Nx2.of (Z := Cls w [] []) [] (by kernel_rfl) rfl (Zc.on (fun _ hw => hw.sel [] (by decide) rfl) (Zc.fin (fun _ hw => hw)))) rfl rfl rfl (Y.move rfl) ?_
          refine V2.y (i := 5) (Nx2.of (Z := Cls w [] []) [] (by kernel_rfl) rfl (Zc.on (fun _ hw => hw.sel [] (by decide) rfl) (Zc.fin (fun _ hw => hw)))) rfl rfl rfl (Y.move rfl) ?_
          refine V2.y (i := 6) (Nx2.of (Z := Cls w [] []) [] (by kernel_rfl) rfl (Zc.on (fun _ hw => hw.sel [] (by decide) rfl) (Zc.fin (fun _ hw => hw)))) rfl rfl rfl (Y.move rfl) ?_
          refine V2.m (i := 7) (V' := fun _ => el (sv b2 a0.toNat) (gx9.toNat * 1)) h (Nx2.of (Z := Cls w [] [.sl (sv b2 a0.toNat) 37 1 (zr svRow gq2 gl11), .ss (zs (svSd 4 1 B) gq2 gl11)]) [31] (by kernel_rfl) rfl (Zc.at1 (fun _ hw => hw))) rfl rfl rfl (Y.indexMZ (row := svRow) (vs := gq2) (l := gl11) Try.underlying38 sz37 rfl rfl (fun w hw => As.at_ (hw.get (i := 0) rfl))) (fun x23 ex23 h => ?_)
          refine V2.y (i := 8) (Nx2.of (Z := Cls w [] [.sl (sv b2 a0.toNat) 37 1 (zr svRow gq2 gl11), .ss (zs (svSd 4 1 B) gq2 gl11)]) [31] (by kernel_rfl) rfl (Zc.at1 (fun _ hw => hw))) rfl rfl rfl (Y.loadE1 (u := gv (gq2 gx9.toNat) 0) ag37 rfl (fun w hw => As.at_ (hw.get (i := 0) rfl)) (zr_idx (vs := gq2) ex23)) ?_
          refine V2.y (i := 9) (Nx2.of (Z := Cls w [] []) [] (by kernel_rfl) rfl (Zc.on (fun _ hw => hw.sel [] (by decide) rfl) (Zc.fin (fun _ hw => hw)))) rfl rfl rfl (Y.move rfl) ?_
          refine V2.m (i := 10) (V' := fun _ => el (gv (gq2 gx9.toNat) 0) (gx12.toNat * 1)) h (Nx2.of (Z := Cls w [] [.sl (sv b2 a0.toNat) 37 1 (zr svRow gq2 gl11), .ss (zs (svSd 4 1 B) gq2 gl11)]) [31] (by kernel_rfl) rfl (Zc.at1 (fun _ hw => hw))) rfl rfl rfl (Y.indexM (g := B) (l := x23) Try.underlying37 sz4 rfl rfl (fun w hw => As.atZ (sds := (svSd 4 1 B)) (vs := gq2) (j := 0) (c := 1) (hw.get (i := 1) rfl) (fun _ _ => rfl) ex23 rfl)) (fun x24 ex24 h => ?_)
          refine V2.iteB (i := 11) h (Nx2.of (Z := Cls w [] [.sl (sv b2 a0.toNat) 37 1 (zr svRow gq2 gl11), .ss (zs (svSd 4 1 B) gq2 gl11)]) [31] (by kernel_rfl) rfl (Zc.at1 (fun _ hw => hw))) rfl rfl rfl (Y.loadE1 (u := .bool x24) ag4 rfl (fun w hw => As.atZ (sds := (svSd 4 1 B)) (vs := gq2) (j := 0) (c := 1) (hw.get (i := 1) rfl) (fun _ _ => rfl) ex23 rfl) (idx_map ex24)) (fun c25 h => ?_) (fun c25 h => ?_)
          ·
           refine V2.y (i := 12) (Nx2.of (Z := Cls w [] []) [] (by kernel_rfl) rfl (Zc.on (fun _ hw => hw.sel [] (by decide) rfl) (Zc.fin (fun _ hw => hw)))) rfl rfl rfl (Y.move rfl) ?_
           refine V2.pass (i := 13) (Nx2.of (Z := Cls w [] []) [] (by kernel_rfl) rfl (Zc.on (fun _ hw => hw.sel [] (by decide) rfl) (Zc.fin (fun _ hw => hw)))) rfl rfl ?_
           refine V2.pass (i := 14) (Nx2.of (Z := Cls w [] []) [] (by kernel_rfl) rfl (Zc.on (fun _ hw => hw.sel [] (by decide) rfl) (Zc.fin (fun _ hw => hw)))) rfl rfl ?_
           refine V2.pass (i := 15) (Nx2.of (Z := Cls w [] []) [] (by kernel_rfl) rfl (Zc.on (fun _ hw => hw.sel [] (by decide) rfl) (Zc.fin (fun _ hw => hw)))) rfl rfl ?_
           refine V2.pass (i := 16) (Nx2.of (Z := Cls w [] []) [] (by kernel_rfl) rfl (Zc.on (fun _ hw => hw.sel [] (by decide) rfl) (Zc.fin (fun _ hw => hw)))) rfl rfl ?_
           refine V2.pass (i := 17) (Nx2.of (Z := Cls w [] []) [] (by kernel_rfl) rfl (Zc.on (fun _ hw => hw.sel [] (by decide) rfl) (Zc.fin (fun _ hw => hw)))) rfl rfl ?_
           refine V2.pass (i := 18) (Nx2.of (Z := Cls w [] []) [] (by kernel_rfl) rfl (Zc.on (fun _ hw => hw.sel [] (by decide) rfl) (Zc.fin (fun _ hw => hw)))) rfl rfl ?_
           refine V2.pass (i := 19) (Nx2.of (Z := Cls w [] []) [] (by kernel_rfl) rfl (Zc.on (fun _ hw => hw.sel [] (by decide) rfl) (Zc.fin (fun _ hw => hw)))) rfl rfl ?_
           refine V2.pass (i := 20) (Nx2.of (Z := Cls w [] []) [] (by kernel_rfl) rfl (Zc.on (fun _ hw => hw.sel [] (by decide) rfl) (Zc.fin (fun _ hw => hw)))) rfl rfl ?_
           refine V2.pass (i := 21) (Nx2.of (Z := Cls w [] []) [] (by kernel_rfl) rfl (Zc.on (fun _ hw => hw.sel [] (by decide) rfl) (Zc.fin (fun _ hw => hw)))) rfl rfl ?_
           refine V2.pass (i := 22) (Nx2.of (Z := Cls w [] []) [] (by kernel_rfl) rfl (Zc.on (fun _ hw => hw.sel [] (by decide) rfl) (Zc.fin (fun _ hw => hw)))) rfl rfl ?_
           refine V2.pass (i := 23) (Nx2.of (Z := Cls w [] []) [] (by kernel_rfl) rfl (Zc.on (fun _ hw => hw.sel [] (by decide) rfl) (Zc.fin (fun _ hw => hw)))) rfl rfl ?_
           refine V2.pass (i := 24) (Nx2.of (Z := Cls w [] []) [] (by kernel_rfl) rfl (Zc.on (fun _ hw => hw.sel [] (by decide) rfl) (Zc.fin (fun _ hw => hw)))) rfl rfl ?_
           refine V2.pass (i := 25) (Nx2.of (Z := Cls w [] []) [] (by kernel_rfl) rfl (Zc.on (fun _ hw => hw.sel [] (by decide) rfl) (Zc.fin (fun _ hw => hw)))) rfl rfl ?_
           refine V2.pass (i := 26) (Nx2.of (Z := Cls w [] []) [] (by kernel_rfl) rfl (Zc.on (fun _ hw => hw.sel [] (by decide) rfl) (Zc.fin (fun _ hw => hw)))) rfl rfl ?_
           refine V2.pass (i := 27) (Nx2.of (Z := Cls w [] []) [] (by kernel_rfl) rfl (Zc.on (fun _ hw => hw.sel [] (by decide) rfl) (Zc.fin (fun _ hw => hw)))) rfl rfl ?_
           refine V2.pass (i := 28) (Nx2.of (Z := Cls w [] []) [] (by kernel_rfl) rfl (Zc.on (fun _ hw => hw.sel [] (by decide) rfl) (Zc.fin (fun _ hw => hw)))) rfl rfl ?_
           refine V2.y (i := 29) (Nx2.of (Z := Cls w [] []) [] (by kernel_rfl) rfl (Zc.on (fun _ hw => hw.sel [] (by decide) rfl) (Zc.fin (fun _ hw => hw)))) rfl rfl rfl (Y.pickT rfl rfl) ?_
           refine V2.m (i := 30) (V' := fun _ => el (gv (gq2 gx9.toNat) 0) (gx12.toNat * 1)) h (Nx2.of (Z := Cls w [] [.sl (sv b2 a0.toNat) 37 1 (zr svRow gq2 gl11), .ss (zs (svSd 4 1 B) gq2 gl11)]) [31] (by kernel_rfl) rfl (Zc.at1 (fun _ hw => hw))) rfl rfl rfl (Y.indexM (g := B) (l := x22) Try.underlying37 sz4 rfl rfl (fun w hw => As.atZ (sds := (svSd 4 1 B)) (vs := gq2) (j := 0) (c := 1) (hw.get (i := 1) rfl) (fun _ _ => rfl) ex22 rfl)) (fun x26 ex26 h => ?_)
           refine V2.eff (i := 31) (by kernel_rfl) rfl ?_
           refine L.ssOut (sds := (svSd 4 1 B)) (vs := gq2) (s := 1) (j := 0) (c := 1) rfl (fun _ _ => rfl) ex22 rfl ?_
           refine L.storeSlM (q := 0) (row := B) (vs := [.bool true]) (j := 0) (u1 := true) h sz4 rfl rfl rfl rfl rfl (all1 rfl all0) rfl ex26 rfl rfl ?_
           intro l27 el27 h
           refine L.ssBack (row := svRow) (sds := (svSd 4 1 B)) (vs := gq2) (p := 0) (s := 2) (q := 1) (c := 1) (jj := 0) (u1 := l27) (fun z => .sl (sv b2 a0.toNat) 37 1 z) h rfl rfl rfl (fun _ _ => rfl) ex22 rfl rfl rfl ?_
           intro l28 el28 h
           refine L.nil (E.toV2 (stC [] [] (Cls w [] [])) 31 (by kernel_rfl) (Sc.past rfl (Sc.stayD (fun _ hw => hw))) (Sc.atD (fun _ hw => hw.sel [] (by decide) rfl)) ?_)
           refine V2.done (by kernel_rfl) ?_
           refine E.blockN (E.thenN (W.region (L.m (V := fun x29 => .int .i64 x29) h rfl (Y.addM rfl rfl) (fun x29 ex29 h => ?_))))
           refine L.y rfl (Y.move rfl) ?_
           exact L.nil (E.againJ ⟨l28, x29, rfl, rfl, by rw [hg3]; exact h⟩ (Nat.lt_succ_self _) ⟨rfl, rfl, rfl, rfl, rfl, rfl, rfl, rfl, rfl, rfl, trivial⟩ (fun _ hw => hw))
          ·
           refine V2.y (i := 12) (Nx2.of (Z := Cls w [] []) [] (by kernel_rfl) rfl (Zc.on (fun _ hw => hw.sel [] (by decide) rfl) (Zc.fin (fun _ hw => hw)))) rfl rfl rfl (Y.move rfl) ?_
           refine V2.y (i := 13) (Nx2.of (Z := Cls w [] []) [] (by kernel_rfl) rfl (Zc.on (fun _ hw => hw.sel [] (by decide) rfl) (Zc.fin (fun _ hw => hw)))) rfl rfl rfl (Y.move rfl) ?_
           refine V2.y (i := 14) (Nx2.of (Z := Cls w [] []) [] (by kernel_rfl) rfl (Zc.on (fun _ hw => hw.sel [] (by decide) rfl) (Zc.fin (fun _ hw => hw)))) rfl rfl rfl (Y.move rfl) ?_
           refine V2.m (i := 15) (V' := fun _ => el (sv b2 a0.toNat) (gx9.toNat * 1)) h (Nx2.of (Z := Cls w [] [.sl (sv b2 a0.toNat) 37 1 (zr svRow gq2 gl11), .ss (zs (svSd 4 1 B) gq2 gl11)]) [31] (by kernel_rfl) rfl (Zc.at1 (fun _ hw => hw))) rfl rfl rfl (Y.indexMZ (row := svRow) (vs := gq2) (l := gl11) Try.underlying38 sz37 rfl rfl (fun w hw => As.at_ (hw.get (i := 0) rfl))) (fun x30 ex30 h => ?_)
           refine V2.y (i := 16) (Nx2.of (Z := Cls w [] [.sl (sv b2 a0.toNat) 37 1 (zr svRow gq2 gl11), .ss (zs (svSd 4 1 B) gq2 gl11)]) [31] (by kernel_rfl) rfl (Zc.at1 (fun _ hw => hw))) rfl rfl rfl (Y.loadE1 (u := gv (gq2 gx9.toNat) 0) ag37 rfl (fun w hw => As.at_ (hw.get (i := 0) rfl)) (zr_idx (vs := gq2) ex30)) ?_
           refine V2.y (i := 17) (Nx2.of (Z := Cls w [] []) [] (by kernel_rfl) rfl (Zc.on (fun _ hw => hw.sel [] (by decide) rfl) (Zc.fin (fun _ hw => hw)))) rfl rfl rfl (Y.move rfl) ?_
           refine V2.m (i := 18) (V' := fun _ => el (gv (gq2 gx9.toNat) 0) (gx6.toNat * 1)) h (Nx2.of (Z := Cls w [] [.sl (sv b2 a0.toNat) 37 1 (zr svRow gq2 gl11), .ss (zs (svSd 4 1 B) gq2 gl11)]) [31] (by kernel_rfl) rfl (Zc.at1 (fun _ hw => hw))) rfl rfl rfl (Y.indexM (g := B) (l := x30) Try.underlying37 sz4 rfl rfl (fun w hw => As.atZ (sds := (svSd 4 1 B)) (vs := gq2) (j := 0) (c := 1) (hw.get (i := 1) rfl) (fun _ _ => rfl) ex30 rfl)) (fun x31 ex31 h => ?_)
           refine V2.iteB (i := 19) h (Nx2.of (Z := Cls w [] [.sl (sv b2 a0.toNat) 37 1 (zr svRow gq2 gl11), .ss (zs (svSd 4 1 B) gq2 gl11)]) [31] (by kernel_rfl) rfl (Zc.at1 (fun _ hw => hw))) rfl rfl rfl (Y.loadE1 (u := .bool x31) ag4 rfl (fun w hw => As.atZ (sds := (svSd 4 1 B)) (vs := gq2) (j := 0) (c := 1) (hw.get (i := 1) rfl) (fun _ _ => rfl) ex30 rfl) (idx_map ex31)) (fun c32 h => ?_) (fun c32 h => ?_)
           ·
            refine V2.y (i := 20) (Nx2.of (Z := Cls w [] []) [] (by kernel_rfl) rfl (Zc.on (fun _ hw => hw.sel [] (by decide) rfl) (Zc.fin (fun _ hw => hw)))) rfl rfl rfl (Y.move rfl) ?_
            refine V2.y (i := 21) (Nx2.of (Z := Cls w [] []) [] (by kernel_rfl) rfl (Zc.on (fun _ hw => hw.sel [] (by decide) rfl) (Zc.fin (fun _ hw => hw)))) rfl rfl rfl (Y.move rfl) ?_
            refine V2.y (i := 22) (Nx2.of (Z := Cls w [] []) [] (by kernel_rfl) rfl (Zc.on (fun _ hw => hw.sel [] (by decide) rfl) (Zc.fin (fun _ hw => hw)))) rfl rfl rfl (Y.move rfl) ?_
            refine V2.m (i := 23) (V' := fun _ => el (sv b2 a0.toNat) (gx6.toNat * 1)) h (Nx2.of (Z := Cls w [] [.sl (sv b2 a0.toNat) 37 1 (zr svRow gq2 gl11), .ss (zs (svSd 4 1 B) gq2 gl11)]) [31] (by kernel_rfl) rfl (Zc.at1 (fun _ hw => hw))) rfl rfl rfl (Y.indexMZ (row := svRow) (vs := gq2) (l := gl11) Try.underlying38 sz37 rfl rfl (fun w hw => As.at_ (hw.get (i := 0) rfl))) (fun x33 ex33 h => ?_)
            refine V2.y (i := 24) (Nx2.of (Z := Cls w [] [.sl (sv b2 a0.toNat) 37 1 (zr svRow gq2 gl11), .ss (zs (svSd 4 1 B) gq2 gl11)]) [31] (by kernel_rfl) rfl (Zc.at1 (fun _ hw => hw))) rfl rfl rfl (Y.loadE1 (u := gv (gq2 gx6.toNat) 0) ag37 rfl (fun w hw => As.at_ (hw.get (i := 0) rfl)) (zr_idx (vs := gq2) ex33)) ?_
            refine V2.y (i := 25) (Nx2.of (Z := Cls w [] []) [] (by kernel_rfl) rfl (Zc.on (fun _ hw => hw.sel [] (by decide) rfl) (Zc.fin (fun _ hw => hw)))) rfl rfl rfl (Y.move rfl) ?_
            refine V2.m (i := 26) (V' := fun _ => el (gv (gq2 gx6.toNat) 0) (gx12.toNat * 1)) h (Nx2.of (Z := Cls w [] [.sl (sv b2 a0.toNat) 37 1 (zr svRow gq2 gl11), .ss (zs (svSd 4 1 B) gq2 gl11)]) [31] (by kernel_rfl) rfl (Zc.at1 (fun _ hw => hw))) rfl rfl rfl (Y.indexM (g := B) (l := x33) Try.underlying37 sz4 rfl rfl (fun w hw => As.atZ (sds := (svSd 4 1 B)) (vs := gq2) (j := 0) (c := 1) (hw.get (i := 1) rfl) (fun _ _ => rfl) ex33 rfl)) (fun x34 ex34 h => ?_)
            refine V2.y (i := 27) (Nx2.of (Z := Cls w [] [.sl (sv b2 a0.toNat) 37 1 (zr svRow gq2 gl11), .ss (zs (svSd 4 1 B) gq2 gl11)]) [31] (by kernel_rfl) rfl (Zc.at1 (fun _ hw => hw))) rfl rfl rfl (Y.loadE1 (u := .bool x34) ag4 rfl (fun w hw => As.atZ (sds := (svSd 4 1 B)) (vs := gq2) (j := 0) (c := 1) (hw.get (i := 1) rfl) (fun _ _ => rfl) ex33 rfl) (idx_map ex34)) ?_
            refine V2.y (i := 28) (Nx2.of (Z := Cls w [] []) [] (by kernel_rfl) rfl (Zc.on (fun _ hw => hw.sel [] (by decide) rfl) (Zc.fin (fun _ hw => hw)))) rfl rfl rfl (Y.pickT rfl rfl) ?_
            refine V2.y (i := 29) (Nx2.of (Z := Cls w [] []) [] (by kernel_rfl) rfl (Zc.on (fun _ hw => hw.sel [] (by decide) rfl) (Zc.fin (fun _ hw => hw)))) rfl rfl rfl (Y.pickF rfl rfl) ?_
            refine V2.m (i := 30) (V' := fun _ => el (gv (gq2 gx9.toNat) 0) (gx12.toNat * 1)) h (Nx2.of (Z := Cls w [] [.sl (sv b2 a0.toNat) 37 1 (zr svRow gq2 gl11), .ss (zs (svSd 4 1 B) gq2 gl11)]) [31] (by kernel_rfl) rfl (Zc.at1 (fun _ hw => hw))) rfl rfl rfl (Y.indexM (g := B) (l := x22) Try.underlying37 sz4 rfl rfl (fun w hw => As.atZ (sds := (svSd 4 1 B)) (vs := gq2) (j := 0) (c := 1) (hw.get (i := 1) rfl) (fun _ _ => rfl) ex22 rfl)) (fun x35 ex35 h => ?_)
            refine V2.eff (i := 31) (by kernel_rfl) rfl ?_
            refine L.ssOut (sds := (svSd 4 1 B)) (vs := gq2) (s := 1) (j := 0) (c := 1) rfl (fun _ _ => rfl) ex22 rfl ?_
            refine L.storeSlM (q := 0) (row := B) (vs := [.bool x34]) (j := 0) (u1 := x34) h sz4 rfl rfl rfl rfl rfl (all1 rfl all0) rfl ex35 rfl rfl ?_
            intro l36 el36 h
            refine L.ssBack (row := svRow) (sds := (svSd 4 1 B)) (vs := gq2) (p := 0) (s := 2) (q := 1) (c := 1) (jj := 0) (u1 := l36) (fun z => .sl (sv b2 a0.toNat) 37 1 z) h rfl rfl rfl (fun _ _ => rfl) ex22 rfl rfl rfl ?_
            intro l37 el37 h
            refine L.nil (E.toV2 (stC [] [] (Cls w [] [])) 31 (by kernel_rfl) (Sc.past rfl (Sc.stayD (fun _ hw => hw))) (Sc.atD (fun _ hw => hw.sel [] (by decide) rfl)) ?_)
            refine V2.done (by kernel_rfl) ?_
            refine E.blockN (E.thenN (W.region (L.m (V := fun x38 => .int .i64 x38) h rfl (Y.addM rfl rfl) (fun x38 ex38 h => ?_))))
            refine L.y rfl (Y.move rfl) ?_
            exact L.nil (E.againJ ⟨l37, x38, rfl, rfl, by rw [hg3]; exact h⟩ (Nat.lt_succ_self _) ⟨rfl, rfl, rfl, rfl, rfl, rfl, rfl, rfl, rfl, rfl, trivial⟩ (fun _ hw => hw))
           ·
            refine V2.y (i := 20) (Nx2.of (Z := Cls w [] []) [] (by kernel_rfl) rfl (Zc.on (fun _ hw => hw.sel [] (by decide) rfl) (Zc.fin (fun _ hw => hw)))) rfl rfl rfl (Y.move rfl) ?_
            refine V2.pass (i := 21) (Nx2.of (Z := Cls w [] []) [] (by kernel_rfl) rfl (Zc.on (fun _ hw => hw.sel [] (by decide) rfl) (Zc.fin (fun _ hw => hw)))) rfl rfl ?_
            refine V2.pass (i := 22) (Nx2.of (Z := Cls w [] []) [] (by kernel_rfl) rfl (Zc.on (fun _ hw => hw.sel [] (by decide) rfl) (Zc.fin (fun _ hw => hw)))) rfl rfl ?_
            refine V2.pass (i := 23) (Nx2.of (Z := Cls w [] []) [] (by kernel_rfl) rfl (Zc.on (fun _ hw => hw.sel [] (by decide) rfl) (Zc.fin (fun _ hw => hw)))) rfl rfl ?_
            refine V2.pass (i := 24) (Nx2.of (Z := Cls w [] []) [] (by kernel_rfl) rfl (Zc.on (fun _ hw => hw.sel [] (by decide) rfl) (Zc.fin (fun _ hw => hw)))) rfl rfl ?_
            refine V2.pass (i := 25) (Nx2.of (Z := Cls w [] []) [] (by kernel_rfl) rfl (Zc.on (fun _ hw => hw.sel [] (by decide) rfl) (Zc.fin (fun _ hw => hw)))) rfl rfl ?_
            refine V2.pass (i := 26) (Nx2.of (Z := Cls w [] []) [] (by kernel_rfl) rfl (Zc.on (fun _ hw => hw.sel [] (by decide) rfl) (Zc.fin (fun _ hw => hw)))) rfl rfl ?_
            refine V2.pass (i := 27) (Nx2.of (Z := Cls w [] []) [] (by kernel_rfl) rfl (Zc.on (fun _ hw => hw.sel [] (by decide) rfl) (Zc.fin (fun _ hw => hw)))) rfl rfl ?_
            refine V2.y (i := 28) (Nx2.of (Z := Cls w [] []) [] (by kernel_rfl) rfl (Zc.on (fun _ hw => hw.sel [] (by decide) rfl) (Zc.fin (fun _ hw => hw)))) rfl rfl rfl (Y.pickF rfl rfl) ?_
            refine V2.y (i := 29) (Nx2.of (Z := Cls w [] []) [] (by kernel_rfl) rfl (Zc.on (fun _ hw => hw.sel [] (by decide) rfl) (Zc.fin (fun _ hw => hw)))) rfl rfl rfl (Y.pickF rfl rfl) ?_
            refine V2.m (i := 30) (V' := fun _ => el (gv (gq2 gx9.toNat) 0) (gx12.toNat * 1)) h (Nx2.of (Z := Cls w [] [.sl (sv b2 a0.toNat) 37 1 (zr svRow gq2 gl11), .ss (zs (svSd 4 1 B) gq2 gl11)]) [31] (by kernel_rfl) rfl (Zc.at1 (fun _ hw => hw))) rfl rfl rfl (Y.indexM (g := B) (l := x22) Try.underlying37 sz4 rfl rfl (fun w hw => As.atZ (sds := (svSd 4 1 B)) (vs := gq2) (j := 0) (c := 1) (hw.get (i := 1) rfl) (fun _ _ => rfl) ex22 rfl)) (fun x39 ex39 h => ?_)
            refine V2.eff (i := 31) (by kernel_rfl) rfl ?_
            refine L.ssOut (sds := (svSd 4 1 B)) (vs := gq2) (s := 1) (j := 0) (c := 1) rfl (fun _ _ => rfl) ex22 rfl ?_
            refine L.storeSlM (q := 0) (row := B) (vs := [.bool false]) (j := 0) (u1 := false) h sz4 rfl rfl rfl rfl rfl (all1 rfl all0) rfl ex39 rfl rfl ?_
            intro l40 el40 h
            refine L.ssBack (row := svRow) (sds := (svSd 4 1 B)) (vs := gq2) (p := 0) (s := 2) (q := 1) (c := 1) (jj := 0) (u1 := l40) (fun z => .sl (sv b2 a0.toNat) 37 1 z) h rfl rfl rfl (fun _ _ => rfl) ex22 rfl rfl rfl ?_
            intro l41 el41 h
            refine L.nil (E.toV2 (stC [] [] (Cls w [] [])) 31 (by kernel_rfl) (Sc.past rfl (Sc.stayD (fun _ hw => hw))) (Sc.atD (fun _ hw => hw.sel [] (by decide) rfl)) ?_)
            refine V2.done (by kernel_rfl) ?_
            refine E.blockN (E.thenN (W.region (L.m (V := fun x42 => .int .i64 x42) h rfl (Y.addM rfl rfl) (fun x42 ex42 h => ?_))))
            refine L.y rfl (Y.move rfl) ?_
            exact L.nil (E.againJ ⟨l41, x42, rfl, rfl, by rw [hg3]; exact h⟩ (Nat.lt_succ_self _) ⟨rfl, rfl, rfl, rfl, rfl, rfl, rfl, rfl, rfl, rfl, trivial⟩ (fun _ hw => hw))
         ·
          refine L.nil (E.thenN (W.seq (W.condF rfl ?_)))
          exact W.exit (E.thenX (E.KLX (E.blockX (E.blockN (E.joinJ ⟨gl11, rfl, rfl, h⟩ ⟨rfl, rfl, rfl, rfl, rfl, rfl, rfl, trivial⟩ (fun _ hw => hw))))))
        ·
         rintro _ _ ⟨gl10, rfl, rfl, h⟩
         rw [m14_quirref_Closure_K5] at h
         refine W.region (L.m (V := fun x6 => .int .i64 x6) h rfl (Y.addM rfl rfl) (fun x6 ex6 h => ?_))
         refine L.y rfl (Y.move rfl) ?_
         exact L.nil (E.againJ ⟨gl10, x6, rfl, rfl, by rw [hg2]; exact h⟩ (Nat.lt_succ_self _) ⟨rfl, rfl, rfl, rfl, rfl, rfl, rfl, trivial⟩ (fun _ hw => hw))
       ·
        refine L.nil (E.thenN (W.seq (W.condF rfl ?_)))
        exact W.exit (E.thenX (E.KLX (E.blockX (E.blockN (E.joinJ ⟨gl8, rfl, rfl, h⟩ ⟨rfl, rfl, rfl, rfl, trivial⟩ (fun _ hw => hw))))))
      ·
       rintro _ _ ⟨gl7, rfl, rfl, h⟩
       rw [m14_quirref_Closure_K4] at h
       refine W.region (L.m (V := fun x4 => .int .i64 x4) h rfl (Y.addM rfl rfl) (fun x4 ex4 h => ?_))
       refine L.y rfl (Y.move rfl) ?_
       exact L.nil (E.againJ ⟨gl7, x4, rfl, rfl, by rw [hg1]; exact h⟩ (Nat.lt_succ_self _) ⟨rfl, rfl, rfl, rfl, trivial⟩ (fun _ hw => hw))
     ·
      refine L.nil (E.thenN (W.seq (W.condF rfl ?_)))
      exact W.exit (E.thenX (E.KLX (E.blockX (E.joinJ ⟨gl5, rfl, rfl, h⟩ ⟨rfl, trivial⟩ (fun _ hw => hw)))))
    ·
     rintro _ _ ⟨gl4, rfl, rfl, h⟩
     rw [m14_quirref_Closure_K3] at h
     refine W.seq (W.region (L.y rfl (Y.move rfl) ?_))
     refine L.y rfl (Y.assign rfl) ?_
     refine L.nil (E.thenN (W.ret (E.ret1 rfl rfl (fun w1 hw => ?_))))
     obtain rfl := Option.some.inj h
     exact ⟨_, _, rfl, ⟨_, _, rfl, rfl⟩, hw⟩
set_option maxRecDepth 100000 in
set_option maxHeartbeats 8000000 in
theorem w10_quirref_Order (a0 : Int) (a1 : (List TEdge)) (u1 : Value) (w : World) (r : ((List Int) × Bool)) (h : m10_quirref_Order a0 a1 = some r) (hA1 : At w u1 2 (a1.map TEdge.row)) : Does Try.prog 10 [.int .i64 a0, u1] w fun u m => ∃ v0, u = .tuple #[v0, .bool r.2] ∧ m = [.sl v0 3 1 (r.1.map I)] := by
  rw [m10_quirref_Order] at h
  refine body (n := 66) Try.func10 rfl rfl rfl (Cls.refl w) ?_
  refine W.seq (W.region (L.y rfl (Y.assign rfl) ?_))
  refine L.y rfl (Y.assign rfl) ?_
  refine L.nil (E.thenN (W.seq (W.region (L.y rfl (Y.move rfl) ?_))))
  refine L.y rfl (Y.move rfl) ?_
  obtain ⟨l1, e4, h⟩ := bind1S h
  refine L.does rfl en14 rfl (fun w' hw => w14_quirref_Closure a0 a1 u1 w' _ e4 (hA1.cls0 hw)) ?_
  rintro v2 _ ⟨_, q3, rfl, rfl⟩
  refine L.y rfl (Y.assign rfl) ?_
  refine L.nil (E.thenN (W.seq (W.region (L.y rfl (Y.move rfl) ?_))))
  obtain ⟨l5, el5, h⟩ := bind1S h
  refine L.makeE (row := B) (z0 := false) el5 rfl Try.underlying37 eL4 ze4 rfl rfl rfl ?_
  intro b6
  refine L.y rfl (Y.assign rfl) ?_
  refine L.nil (E.thenN (W.seq (W.region (L.y rfl (Y.assign rfl) ?_))))
  refine L.nil (E.thenN (W.seqJ (fun gs D => ∃ (gv1 : Value) (gl2 : (List Int)), gs = [(8, gv1)] ∧ D = Cls w [] [.sl gv1 3 1 (gl2.map I)] ∧ m10_quirref_Order_K1 gl2 = some r) ?_ ?_))
  ·
   refine W.block (W.nilSl 3 1 ?_)
   refine W.loopJ (fun m gs D => ∃ (gl3 : (List Bool)) (gv4 : Value) (gl5 : (List Int)), gs = [(0, .int .i64 a0), (6, v2), (7, (sv b6 a0.toNat)), (8, gv4)] ∧ D = Cls w [] [.sl v2 37 1 (zr svRow q3 l1), .ss (zs (svSd 4 1 B) q3 l1), .sl (sv b6 a0.toNat) 4 1 (gl3.map B), .sl gv4 3 1 (gl5.map I)] ∧ m10_quirref_Order_L1 a0 l1 m gl3 gl5 = some r) ⟨l5, .slice none 0 0, [], rfl, rfl, h⟩ ⟨rfl, rfl, rfl, rfl, trivial⟩ (fun _ hw => hw.sel [2, 3, 1, 0] (by decide) rfl) ?_
   rintro m _ _ ⟨gl3, gv4, gl5, rfl, rfl, h⟩
   rcases m with _ | m
   · rw [m10_quirref_Order_L1] at h; cases h
   rw [m10_quirref_Order_L1] at h
   generalize hg1 : m10_quirref_Order_L1 a0 l1 m = go1 at h
   rw [m10_quirref_Order_L1B] at h
   refine W.seqJ (fun gs D => gs = [(0, .int .i64 a0), (6, v2), (7, (sv b6 a0.toNat)), (8, gv4)] ∧ D = Cls w [] [.sl v2 37 1 (zr svRow q3 l1), .ss (zs (svSd 4 1 B) q3 l1), .sl (sv b6 a0.toNat) 4 1 (gl3.map B), .sl gv4 3 1 (gl5.map I)] ∧ m10_quirref_Order_K2 a0 gl3 l1 gl5 go1 = some r) ?_ ?_
   ·
    refine W.seq (W.region (L.y rfl (Y.move rfl) ?_))
    refine L.y rfl (Y.lenM (g := I) (l := gl5) Try.underlying25 rfl (fun w hw => As.at_ (hw.get (i := 3) rfl))) ?_
    refine L.y rfl (Y.move rfl) ?_
    refine L.ite h rfl (Y.lss rfl rfl) (fun c28 h => ?_) (fun c28 h => ?_)
    ·
     refine L.nil (E.thenN (W.condT rfl ?_))
     exact W.skip (E.joinJ ⟨rfl, rfl, h⟩ ⟨rfl, rfl, rfl, rfl, trivial⟩ (fun _ hw => hw))
    ·
     refine L.nil (E.thenN (W.condF rfl ?_))
     exact W.exit (E.KSX (E.KLX (E.blockX (E.joinJ ⟨gv4, gl5, rfl, rfl, h⟩ ⟨rfl, trivial⟩ (fun _ hw => hw.sel [3] (by decide) rfl)))))
   ·
    rintro _ _ ⟨rfl, rfl, h⟩
    rw [m10_quirref_Order_K2] at h
    refine W.block (W.seq (W.region (L.y rfl (Y.assign rfl) ?_)))
    refine L.nil (E.thenN (W.seqJ (fun gs D => ∃ (gx6 : Int), gs = [(0, .int .i64 a0), (6, v2), (7, (sv b6 a0.toNat)), (8, gv4), (9, .int .i64 gx6)] ∧ D = Cls w [] [.sl v2 37 1 (zr svRow q3 l1), .ss (zs (svSd 4 1 B) q3 l1), .sl (sv b6 a0.toNat) 4 1 (gl3.map B), .sl gv4 3 1 (gl5.map I)] ∧ m10_quirref_Order_K3 gl3 gl5 go1 gx6 = some r) ?_ ?_))
    ·
     refine W.seq (W.region (L.y rfl (Y.move rfl) ?_))
     refine L.y rfl (Y.move rfl) ?_
     refine L.nil (E.thenN (W.block (W.loopJ (fun m gs D => ∃ (gx7 : Int), gs = [(0, .int .i64 a0), (6, v2), (7, (sv b6 a0.toNat)), (8, gv4), (9, .int .i64 (-1)), (22, .int .i64 a0), (23, .int .i64 gx7)] ∧ D = Cls w [] [.sl v2 37 1 (zr svRow q3 l1), .ss (zs (svSd 4 1 B) q3 l1), .sl (sv b6 a0.toNat) 4 1 (gl3.map B), .sl gv4 3 1 (gl5.map I)] ∧ m10_quirref_Order_L2 a0 gl3 l1 gl5 go1 m gx7 = some r) ⟨0, rfl, rfl, h⟩ ⟨rfl, rfl, rfl, rfl, rfl, rfl, rfl, trivial⟩ (fun _ hw => hw) ?_)))
     rintro m _ _ ⟨gx7, rfl, rfl, h⟩
     rcases m with _ | m
     · rw [m10_quirref_Order_L2] at h; cases h
     rw [m10_quirref_Order_L2] at h
     generalize hg2 : m10_quirref_Order_L2 a0 gl3 l1 gl5 go1 m = go2 at h
     rw [m10_quirref_Order_L2B] at h
     refine W.seq (W.region (L.ite h rfl (Y.lss rfl rfl) (fun c13 h => ?_) (fun c13 h => ?_)))
     ·
      refine L.nil (E.thenN (W.seq (W.condT rfl ?_)))
      refine W.skip (E.thenN (W.seqJ (fun gs D => gs = [(0, .int .i64 a0), (6, v2), (7, (sv b6 a0.toNat)), (8, gv4), (9, .int .i64 (-1)), (22, .int .i64 a0), (23, .int .i64 gx7)] ∧ D = Cls w [] [.sl v2 37 1 (zr svRow q3 l1), .ss (zs (svSd 4 1 B) q3 l1), .sl (sv b6 a0.toNat) 4 1 (gl3.map B), .sl gv4 3 1 (gl5.map I)] ∧ m10_quirref_Order_K4 gx7 go2 = some r) ?_ ?_))
      ·
       refine W.block (W.seq (W.region (L.y rfl (Y.move rfl) ?_)))
       refine L.y rfl (Y.assign rfl) ?_
       refine L.nil (E.thenN (W.seqJ (fun gs D => ∃ (gb8 : Bool), gs = [(0, .int .i64 a0), (6, v2), (7, (sv b6 a0.toNat)), (8, gv4), (9, .int .i64 (-1)), (10, .int .i64 gx7), (11, .bool gb8), (22, .int .i64 a0), (23, .int .i64 gx7)] ∧ D = Cls w [] [.sl v2 37 1 (zr svRow q3 l1), .ss (zs (svSd 4 1 B) q3 l1), .sl (sv b6 a0.toNat) 4 1 (gl3.map B), .sl gv4 3 1 (gl5.map I)] ∧ m10_quirref_Order_K5 a0 gl3 l1 gx7 gl5 go1 go2 gb8 = some r) ?_ ?_))
       ·
        refine W.region (L.y rfl (Y.move rfl) ?_)
        refine L.y rfl (Y.move rfl) ?_
        refine L.m (V := fun _ => el (sv b6 a0.toNat) (gx7.toNat * 1)) h rfl (Y.indexM (g := B) (l := gl3) Try.underlying37 sz4 rfl rfl (fun w hw => As.at_ (hw.get (i := 2) rfl))) (fun x26 ex26 h => ?_)
        refine L.iteB h rfl (Y.loadE1 (u := .bool x26) ag4 rfl (fun w hw => As.at_ (hw.get (i := 2) rfl)) (idx_map ex26)) (fun c27 h => ?_) (fun c27 h => ?_)
        ·
         refine L.y rfl (Y.not rfl) ?_
         refine L.y rfl (Y.assign rfl) ?_
         exact L.nil (E.joinJ ⟨false, rfl, rfl, h⟩ ⟨rfl, rfl, rfl, rfl, rfl, rfl, rfl, rfl, rfl, trivial⟩ (fun _ hw => hw))
        ·
         refine L.y rfl (Y.not rfl) ?_
         refine L.y rfl (Y.assign rfl) ?_
         exact L.nil (E.joinJ ⟨true, rfl, rfl, h⟩ ⟨rfl, rfl, rfl, rfl, rfl, rfl, rfl, rfl, rfl, trivial⟩ (fun _ hw => hw))
       ·
        rintro _ _ ⟨gb8, rfl, rfl, h⟩
        rw [m10_quirref_Order_K5] at h
        rcases gb8 with _ | _
        ·
         replace h := iteF h
         refine W.seqJ (fun gs D => gs = [(0, .int .i64 a0), (6, v2), (7, (sv b6 a0.toNat)), (8, gv4), (9, .int .i64 (-1)), (10, .int .i64 gx7), (11, .bool false), (22, .int .i64 a0), (23, .int .i64 gx7)] ∧ D = Cls w [] [.sl v2 37 1 (zr svRow q3 l1), .ss (zs (svSd 4 1 B) q3 l1), .sl (sv b6 a0.toNat) 4 1 (gl3.map B), .sl gv4 3 1 (gl5.map I)] ∧ m10_quirref_Order_K6 gx7 go2 = some r) ?_ ?_
         ·
          refine W.seq (W.region (L.y rfl (Y.move rfl) ?_))
          refine L.y rfl (Y.move rfl) ?_
          refine L.nil (E.thenN (W.block (W.loopJ (fun m gs D => ∃ (gx9 : Int), gs = [(0, .int .i64 a0), (6, v2), (7, (sv b6 a0.toNat)), (8, gv4), (9, .int .i64 (-1)), (10, .int .i64 gx7), (11, .bool false), (22, .int .i64 a0), (23, .int .i64 gx7), (31, .int .i64 a0), (32, .int .i64 gx9)] ∧ D = Cls w [] [.sl v2 37 1 (zr svRow q3 l1), .ss (zs (svSd 4 1 B) q3 l1), .sl (sv b6 a0.toNat) 4 1 (gl3.map B), .sl gv4 3 1 (gl5.map I)] ∧ m10_quirref_Order_L3 a0 gx7 go2 m gx9 = some r) ⟨0, rfl, rfl, h⟩ ⟨rfl, rfl, rfl, rfl, rfl, rfl, rfl, rfl, rfl, rfl, rfl, trivial⟩ (fun _ hw => hw) ?_)))
          rintro m _ _ ⟨gx9, rfl, rfl, h⟩
          rcases m with _ | m
          · rw [m10_quirref_Order_L3] at h; cases h
          rw [m10_quirref_Order_L3] at h
          generalize hg3 : m10_quirref_Order_L3 a0 gx7 go2 m = go3 at h
          rw [m10_quirref_Order_L3B] at h
          refine W.seq (W.region (L.ite h rfl (Y.lss rfl rfl) (fun c15 h => ?_) (fun c15 h => ?_)))
          ·
           refine L.nil (E.thenN (W.seq (W.condT rfl ?_)))
           refine W.skip (E.thenN (W.seq (W.block (W.seq (W.region (L.y rfl (Y.move rfl) ?_))))))
           refine L.y rfl (Y.assign rfl) ?_
           refine L.nil (E.thenN (W.region (L.y rfl (Y.move rfl) ?_)))
           refine L.y rfl (Y.move rfl) ?_
           refine L.pass rfl rfl (by nofun) ?_
           refine L.pass rfl rfl (by nofun) ?_
           refine L.pass rfl rfl (by nofun) ?_
           refine L.pass rfl rfl (by nofun) ?_
           refine L.pass rfl rfl (by nofun) ?_
           refine L.pass rfl rfl (by nofun) ?_
           refine L.pass rfl rfl (by nofun) ?_
           refine L.pass rfl rfl (by nofun) ?_
           refine L.pass rfl rfl (by nofun) ?_
           refine L.pass rfl rfl (by nofun) ?_
           refine L.pass rfl rfl (by nofun) ?_
           refine L.pass rfl rfl (by nofun) ?_
           refine L.pass rfl rfl (by nofun) ?_
           refine L.pass rfl rfl (by nofun) ?_
           refine L.y rfl (Y.pickF rfl rfl) ?_
           refine L.y rfl (Y.assign rfl) ?_
           refine L.nil (E.blockN (E.thenN (W.region (L.m (V := fun x16 => .int .i64 x16) h rfl (Y.addM rfl rfl) (fun x16 ex16 h => ?_)))))
           refine L.y rfl (Y.move rfl) ?_
           exact L.nil (E.againJ ⟨x16, rfl, rfl, by rw [hg3]; exact h⟩ (Nat.lt_succ_self _) ⟨rfl, rfl, rfl, rfl, rfl, rfl, rfl, rfl, rfl, rfl, rfl, trivial⟩ (fun _ hw => hw))
          ·
           refine L.nil (E.thenN (W.seq (W.condF rfl ?_)))
           exact W.exit (E.thenX (E.KLX (E.blockX (E.joinJ ⟨rfl, rfl, h⟩ ⟨rfl, rfl, rfl, rfl, rfl, rfl, rfl, rfl, rfl, trivial⟩ (fun _ hw => hw)))))
         ·
          rintro _ _ ⟨rfl, rfl, h⟩
          rw [m10_quirref_Order_K6] at h
          refine W.seq (W.region (L.y rfl (Y.move rfl) ?_))
          refine L.nil (E.thenN (W.condF rfl ?_))
          exact W.skip (E.blockN (E.joinJ ⟨rfl, rfl, h⟩ ⟨rfl, rfl, rfl, rfl, rfl, rfl, rfl, trivial⟩ (fun _ hw => hw)))
        ·
         replace h := iteT h
         refine W.seqJ (fun gs D => ∃ (gb10 : Bool), gs = [(0, .int .i64 a0), (6, v2), (7, (sv b6 a0.toNat)), (8, gv4), (9, .int .i64 (-1)), (10, .int .i64 gx7), (11, .bool gb10), (22, .int .i64 a0), (23, .int .i64 gx7)] ∧ D = Cls w [] [.sl v2 37 1 (zr svRow q3 l1), .ss (zs (svSd 4 1 B) q3 l1), .sl (sv b6 a0.toNat) 4 1 (gl3.map B), .sl gv4 3 1 (gl5.map I)] ∧ m10_quirref_Order_K7 gl3 gl5 go1 gx7 go2 gb10 = some r) ?_ ?_
         ·
          refine W.seq (W.region (L.y rfl (Y.move rfl) ?_))
          refine L.y rfl (Y.move rfl) ?_
          refine L.nil (E.thenN (W.block (W.loopJ (fun m gs D => ∃ (gb11 : Bool) (gx12 : Int), gs = [(0, .int .i64 a0), (6, v2), (7, (sv b6 a0.toNat)), (8, gv4), (9, .int .i64 (-1)), (10, .int .i64 gx7), (11, .bool gb11), (22, .int .i64 a0), (23, .int .i64 gx7), (31, .int .i64 a0), (32, .int .i64 gx12)] ∧ D = Cls w [] [.sl v2 37 1 (zr svRow q3 l1), .ss (zs (svSd 4 1 B) q3 l1), .sl (sv b6 a0.toNat) 4 1 (gl3.map B), .sl gv4 3 1 (gl5.map I)] ∧ m10_quirref_Order_L4 a0 gl3 l1 gx7 gl5 go1 go2 m gb11 gx12 = some r) ⟨true, 0, rfl, rfl, h⟩ ⟨rfl, rfl, rfl, rfl, rfl, rfl, rfl, rfl, rfl, rfl, rfl, trivial⟩ (fun _ hw => hw) ?_)))
          rintro m _ _ ⟨gb11, gx12, rfl, rfl, h⟩
          rcases m with _ | m
          · rw [m10_quirref_Order_L4] at h; cases h
          rw [m10_quirref_Order_L4] at h
          generalize hg4 : m10_quirref_Order_L4 a0 gl3 l1 gx7 gl5 go1 go2 m = go4 at h
          rw [m10_quirref_Order_L4B] at h
          refine W.seq (W.region (L.ite h rfl (Y.lss rfl rfl) (fun c17 h => ?_) (fun c17 h => ?_)))
          ·
           refine L.nil (E.thenN (W.seq (W.condT rfl ?_)))
           refine W.skip (E.thenN (W.seq (W.block (W.seq (W.region (L.y rfl (Y.move rfl) ?_))))))
           refine L.y rfl (Y.assign rfl) ?_
           refine L.nil (E.thenN (W.region (L.cutJ 17 (fun gs D => ∃ (gb13 : Bool), gs = [(0, .int .i64 a0), (6, v2), (7, (sv b6 a0.toNat)), (8, gv4), (9, .int .i64 (-1)), (10, .int .i64 gx7), (22, .int .i64 a0), (23, .int .i64 gx7), (31, .int .i64 a0), (32, .int .i64 gx12), (51, .bool gb13)] ∧ D = Cls w [] [.sl v2 37 1 (zr svRow q3 l1), .ss (zs (svSd 4 1 B) q3 l1), .sl (sv b6 a0.toNat) 4 1 (gl3.map B), .sl gv4 3 1 (gl5.map I)] ∧ m10_quirref_Order_K8 gx12 go4 gb13 = some r) ?_ ?_)))
           ·
            refine L.iteB h rfl (Y.move rfl) (fun c20 h => ?_) (fun c20 h => ?_)
            ·
             refine L.y rfl (Y.move rfl) ?_
             refine L.take rfl (L.y rfl (Y.move rfl) ?_)
             refine L.take rfl (L.y rfl (Y.move rfl) ?_)
             refine L.take rfl (L.m (V := fun _ => el (sv b6 a0.toNat) (gx12.toNat * 1)) h rfl (Y.indexM (g := B) (l := gl3) Try.underlying37 sz4 rfl rfl (fun w hw => As.at_ (hw.get (i := 2) rfl))) (fun x21 ex21 h => ?_))
             refine L.take rfl (L.iteB h rfl (Y.loadE1 (u := .bool x21) ag4 rfl (fun w hw => As.at_ (hw.get (i := 2) rfl)) (idx_map ex21)) (fun c22 h => ?_) (fun c22 h => ?_))
             ·
              refine L.take rfl (L.y rfl (Y.move rfl) ?_)
              refine L.pass rfl rfl (by nofun) ?_
              refine L.pass rfl rfl (by nofun) ?_
              refine L.pass rfl rfl (by nofun) ?_
              refine L.pass rfl rfl (by nofun) ?_
              refine L.pass rfl rfl (by nofun) ?_
              refine L.pass rfl rfl (by nofun) ?_
              refine L.pass rfl rfl (by nofun) ?_
              refine L.pass rfl rfl (by nofun) ?_
              refine L.take rfl (L.y rfl (Y.pickT rfl rfl) ?_)
              refine L.y rfl (Y.pickT rfl rfl) ?_
              exact L.nil (E.joinJ ⟨true, rfl, rfl, h⟩ ⟨rfl, rfl, rfl, rfl, rfl, rfl, rfl, rfl, rfl, rfl, rfl, trivial⟩ (fun _ hw => hw))
             ·
              refine L.take rfl (L.y rfl (Y.move rfl) ?_)
              refine L.take rfl (L.y rfl (Y.move rfl) ?_)
              refine L.take rfl (L.y rfl (Y.move rfl) ?_)
              refine L.take rfl (L.m (V := fun _ => el v2 (gx12.toNat * 1)) h rfl (Y.indexMZ (row := svRow) (vs := q3) (l := l1) Try.underlying38 sz37 rfl rfl (fun w hw => As.at_ (hw.get (i := 0) rfl))) (fun x23 ex23 h => ?_))
              refine L.take rfl (L.y rfl (Y.loadE1 (u := gv (q3 gx12.toNat) 0) ag37 rfl (fun w hw => As.at_ (hw.get (i := 0) rfl)) (zr_idx (vs := q3) ex23)) ?_)
              refine L.take rfl (L.y rfl (Y.move rfl) ?_)
              refine L.take rfl (L.m (V := fun _ => el (gv (q3 gx12.toNat) 0) (gx7.toNat * 1)) h rfl (Y.indexM (g := B) (l := x23) Try.underlying37 sz4 rfl rfl (fun w hw => As.atZ (sds := (svSd 4 1 B)) (vs := q3) (j := 0) (c := 1) (hw.get (i := 1) rfl) (fun _ _ => rfl) ex23 rfl)) (fun x24 ex24 h => ?_))
              refine L.take rfl (L.iteB h rfl (Y.loadE1 (u := .bool x24) ag4 rfl (fun w hw => As.atZ (sds := (svSd 4 1 B)) (vs := q3) (j := 0) (c := 1) (hw.get (i := 1) rfl) (fun _ _ => rfl) ex23 rfl) (idx_map ex24)) (fun c25 h => ?_) (fun c25 h => ?_))
              ·
               refine L.take rfl (L.y rfl (Y.not rfl) ?_)
               refine L.take rfl (L.y rfl (Y.pickF rfl rfl) ?_)
               refine L.y rfl (Y.pickT rfl rfl) ?_
               exact L.nil (E.joinJ ⟨false, rfl, rfl, h⟩ ⟨rfl, rfl, rfl, rfl, rfl, rfl, rfl, rfl, rfl, rfl, rfl, trivial⟩ (fun _ hw => hw))
              ·
               refine L.take rfl (L.y rfl (Y.not rfl) ?_)
               refine L.take rfl (L.y rfl (Y.pickF rfl rfl) ?_)
               refine L.y rfl (Y.pickT rfl rfl) ?_
               exact L.nil (E.joinJ ⟨true, rfl, rfl, h⟩ ⟨rfl, rfl, rfl, rfl, rfl, rfl, rfl, rfl, rfl, rfl, rfl, trivial⟩ (fun _ hw => hw))
            ·
             refine L.y rfl (Y.move rfl) ?_
             refine L.pass rfl rfl (by nofun) ?_
             refine L.pass rfl rfl (by nofun) ?_
             refine L.pass rfl rfl (by nofun) ?_
             refine L.pass rfl rfl (by nofun) ?_
             refine L.pass rfl rfl (by nofun) ?_
             refine L.pass rfl rfl (by nofun) ?_
             refine L.pass rfl rfl (by nofun) ?_
             refine L.pass rfl rfl (by nofun) ?_
             refine L.pass rfl rfl (by nofun) ?_
             refine L.pass rfl rfl (by nofun) ?_
             refine L.pass rfl rfl (by nofun) ?_
             refine L.pass rfl rfl (by nofun) ?_
             refine L.pass rfl rfl (by nofun) ?_
             refine L.pass rfl rfl (by nofun) ?_
             refine L.y rfl (Y.pickF rfl rfl) ?_
             exact L.nil (E.joinJ ⟨false, rfl, rfl, h⟩ ⟨rfl, rfl, rfl, rfl, rfl, rfl, rfl, rfl, rfl, rfl, rfl, trivial⟩ (fun _ hw => hw))
           ·
            rintro _ _ ⟨gb13, rfl, rfl, h⟩
            rw [m10_quirref_Order_K8] at h
            rcases gb13 with _ | _
            ·
             replace h := iteF h
             refine L.y rfl (Y.assign rfl) ?_
             refine L.nil (E.blockN (E.thenN (W.region (L.m (V := fun x18 => .int .i64 x18) h rfl (Y.addM rfl rfl) (fun x18 ex18 h => ?_)))))
             refine L.y rfl (Y.move rfl) ?_
             exact L.nil (E.againJ ⟨false, x18, rfl, rfl, by rw [hg4]; exact h⟩ (Nat.lt_succ_self _) ⟨rfl, rfl, rfl, rfl, rfl, rfl, rfl, rfl, rfl, rfl, rfl, trivial⟩ (fun _ hw => hw))
            ·
             replace h := iteT h
             refine L.y rfl (Y.assign rfl) ?_
             refine L.nil (E.blockN (E.thenN (W.region (L.m (V := fun x19 => .int .i64 x19) h rfl (Y.addM rfl rfl) (fun x19 ex19 h => ?_)))))
             refine L.y rfl (Y.move rfl) ?_
             exact L.nil (E.againJ ⟨true, x19, rfl, rfl, by rw [hg4]; exact h⟩ (Nat.lt_succ_self _) ⟨rfl, rfl, rfl, rfl, rfl, rfl, rfl, rfl, rfl, rfl, rfl, trivial⟩ (fun _ hw => hw))
          ·
           refine L.nil (E.thenN (W.seq (W.condF rfl ?_)))
           exact W.exit (E.thenX (E.KLX (E.blockX (E.joinJ ⟨gb11, rfl, rfl, h⟩ ⟨rfl, rfl, rfl, rfl, rfl, rfl, rfl, rfl, rfl, trivial⟩ (fun _ hw => hw)))))
         ·
          rintro _ _ ⟨gb10, rfl, rfl, h⟩
          rw [m10_quirref_Order_K7] at h
          rcases gb10 with _ | _
          ·
           replace h := iteF h
           refine W.seq (W.region (L.y rfl (Y.move rfl) ?_))
           refine L.nil (E.thenN (W.condF rfl ?_))
           exact W.skip (E.blockN (E.joinJ ⟨rfl, rfl, h⟩ ⟨rfl, rfl, rfl, rfl, rfl, rfl, rfl, trivial⟩ (fun _ hw => hw)))
          ·
           replace h := iteT h
           refine W.seq (W.region (L.y rfl (Y.move rfl) ?_))
           refine L.nil (E.thenN (W.condT rfl ?_))
           refine W.seq (W.region (L.y rfl (Y.move rfl) ?_))
           refine L.y rfl (Y.assign rfl) ?_
           exact L.nil (E.thenN (W.exit (E.blockY rfl (E.KSX (E.KLX (E.blockX (E.joinJ ⟨gx7, rfl, rfl, h⟩ ⟨rfl, rfl, rfl, rfl, rfl, trivial⟩ (fun _ hw => hw))))))))
      ·
       rintro _ _ ⟨rfl, rfl, h⟩
       rw [m10_quirref_Order_K4] at h
       refine W.region (L.m (V := fun x14 => .int .i64 x14) h rfl (Y.addM rfl rfl) (fun x14 ex14 h => ?_))
       refine L.y rfl (Y.move rfl) ?_
       exact L.nil (E.againJ ⟨x14, rfl, rfl, by rw [hg2]; exact h⟩ (Nat.lt_succ_self _) ⟨rfl, rfl, rfl, rfl, rfl, rfl, rfl, trivial⟩ (fun _ hw => hw))
     ·
      refine L.nil (E.thenN (W.seq (W.condF rfl ?_)))
      exact W.exit (E.thenX (E.KLX (E.blockX (E.joinJ ⟨(-1), rfl, rfl, h⟩ ⟨rfl, rfl, rfl, rfl, rfl, trivial⟩ (fun _ hw => hw)))))
    ·
     rintro _ _ ⟨gx6, rfl, rfl, h⟩
     rw [m10_quirref_Order_K3] at h
     refine W.seq (W.seq (W.region (L.y rfl (Y.move rfl) ?_)))
     refine L.ite h rfl (Y.lss rfl rfl) (fun c7 h => ?_) (fun c7 h => ?_)
     ·
      refine L.nil (E.thenN (W.condT rfl ?_))
      refine W.seq (W.region (L.y rfl (Y.assign rfl) ?_))
      refine L.y rfl (Y.assign rfl) ?_
      refine L.nil (E.thenN (W.ret (E.thenR (E.blockR (E.KLR (E.blockR (E.KSR (E.ret2 rfl rfl rfl (fun w1 hw => ?_)))))))))
      obtain rfl := Option.some.inj h
      exact ⟨_, _, rfl, ⟨_, rfl, rfl⟩, (hw.nilSl 3 1).sel [0] (by decide) rfl⟩
     ·
      refine L.nil (E.thenN (W.condF rfl ?_))
      refine W.skip (E.thenN (W.seq (W.region (L.y rfl (Y.move rfl) ?_))))
      refine L.y rfl (Y.move rfl) ?_
      refine L.m (V := fun _ => el (sv b6 a0.toNat) (gx6.toNat * 1)) h rfl (Y.indexM (g := B) (l := gl3) Try.underlying37 sz4 rfl rfl (fun w hw => As.at_ (hw.get (i := 2) rfl))) (fun x8 ex8 h => ?_)
      refine L.storeSlM (q := 2) (row := B) (vs := [.bool true]) (j := 0) (u1 := true) h sz4 rfl rfl rfl rfl rfl (all1 rfl all0) rfl ex8 rfl rfl ?_
      intro l9 el9 h
      refine L.nil (E.thenN (W.region (L.y rfl (Y.move rfl) ?_)))
      refine L.y rfl (Y.move rfl) ?_
      refine L.litOne rfl Try.underlying25 eL3 rfl rfl ?_
      intro b10
      refine L.appM (i := 4) (g := I) (l := gl5) (more := [gx6]) h rfl Try.underlying25 eL3 rfl rfl rfl (fun w hw => As.at_ (hw.get (i := 0) rfl)) (plain_ints _) rfl ?_
      intro v11 l12 el12 h
      refine L.y rfl (Y.assign rfl) ?_
      exact L.nil (E.blockN (E.againJ ⟨l9, v11, l12, rfl, rfl, by rw [hg1]; exact h⟩ (Nat.lt_succ_self _) ⟨rfl, rfl, rfl, rfl, trivial⟩ (fun _ hw => hw.sel [2, 3, 4, 0] (by decide) rfl)))
  ·
   rintro _ _ ⟨gv1, gl2, rfl, rfl, h⟩
   rw [m10_quirref_Order_K1] at h
   refine W.seq (W.region (L.y rfl (Y.move rfl) ?_))
   refine L.y rfl (Y.assign rfl) ?_
   refine L.y rfl (Y.assign rfl) ?_
   refine L.nil (E.thenN (W.ret (E.ret2 rfl rfl rfl (fun w1 hw => ?_))))
   obtain rfl := Option.some.inj h
   exact ⟨_, _, rfl, ⟨_, rfl, rfl⟩, hw⟩
set_option maxRecDepth 100000 in
set_option maxHeartbeats 8000000 in
theorem w11_slices_Equal_int (a0 : (List Int)) (a1 : (List Int)) (u0 : Value) (u1 : Value) (w : World) (r : Bool) (h : m11_slices_Equal_int a0 a1 = some r) (hA0 : At w u0 1 (a0.map I)) (hA1 : At w u1 1 (a1.map I)) : Does Try.prog 11 [u0, u1] w fun u m => u = .bool r ∧ m = [] := by
  rw [m11_slices_Equal_int] at h
  refine body (n := 26) Try.func11 rfl rfl rfl (Cls.refl w) ?_
  refine W.seq (W.region (L.y rfl (Y.assign rfl) ?_))
  refine L.nil (E.thenN (W.seqJ (fun gs D => gs = [(0, u0), (1, u1)] ∧ D = Cls w [] [] ∧ m11_slices_Equal_int_K1 a0 a1 = some r) ?_ ?_))
  ·
   refine W.seq (W.region (L.y rfl (Y.move rfl) ?_))
   refine L.y rfl (Y.lenM (g := I) (l := a0) Try.underlying25 rfl (fun w' hw => hA0.cls0 hw)) ?_
   refine L.y rfl (Y.move rfl) ?_
   refine L.y rfl (Y.lenM (g := I) (l := a1) Try.underlying25 rfl (fun w' hw => hA1.cls0 hw)) ?_
   refine L.ite h rfl (Y.neq rfl rfl) (fun c6 h => ?_) (fun c6 h => ?_)
   ·
    refine L.nil (E.thenN (W.condT rfl ?_))
    refine W.seq (W.region (L.y rfl (Y.assign rfl) ?_))
    refine L.nil (E.thenN (W.ret (E.KSR (E.ret1 rfl rfl (fun w1 hw => ?_)))))
    obtain rfl := Option.some.inj h
    exact ⟨_, _, rfl, ⟨rfl, rfl⟩, hw⟩
   ·
    refine L.nil (E.thenN (W.condF rfl ?_))
    exact W.skip (E.joinJ ⟨rfl, rfl, h⟩ ⟨rfl, rfl, trivial⟩ (fun _ hw => hw))
  ·
   rintro _ _ ⟨rfl, rfl, h⟩
   rw [m11_slices_Equal_int_K1] at h
   refine W.seqJ (fun gs D => gs = [] ∧ D = Cls w [] [] ∧ m11_slices_Equal_int_K2 = some r) ?_ ?_
   ·
    refine W.seq (W.region (L.y rfl (Y.move rfl) ?_))
    refine L.y rfl (Y.lenM (g := I) (l := a0) Try.underlying25 rfl (fun w' hw => hA0.cls0 hw)) ?_
    refine L.y rfl (Y.move rfl) ?_
    refine L.nil (E.thenN (W.block (W.loopJ (fun m gs D => ∃ (gx1 : Int), gs = [(0, u0), (1, u1), (12, .int .i64 (a0.length : Int)), (13, .int .i64 gx1)] ∧ D = Cls w [] [] ∧ m11_slices_Equal_int_L1 a0 a1 m gx1 = some r) ⟨0, rfl, rfl, h⟩ ⟨rfl, rfl, rfl, rfl, trivial⟩ (fun _ hw => hw) ?_)))
    rintro m _ _ ⟨gx1, rfl, rfl, h⟩
    rcases m with _ | m
    · rw [m11_slices_Equal_int_L1] at h; cases h
    rw [m11_slices_Equal_int_L1] at h
    generalize hg1 : m11_slices_Equal_int_L1 a0 a1 m = go1 at h
    rw [m11_slices_Equal_int_L1B] at h
    refine W.seq (W.region (L.ite h rfl (Y.lss rfl rfl) (fun c1 h => ?_) (fun c1 h => ?_)))
    ·
     refine L.nil (E.thenN (W.seq (W.condT rfl ?_)))
     refine W.skip (E.thenN (W.seq (W.block (W.seq (W.region (L.y rfl (Y.move rfl) ?_))))))
     refine L.y rfl (Y.assign rfl) ?_
     refine L.nil (E.thenN (W.seq (W.quietC mixed (by kernel_rfl) (fun _ hw => hw.drew) (fun hC => ?_))))
     refine U.y rfl (Y.move rfl) ?_
     refine U.y rfl (Y.move rfl) ?_
     refine U.m (V := fun _ => el u0 (gx1.toNat * 1)) h rfl (Y.indexM (g := I) (l := a0) Try.underlying25 sz3 rfl rfl (fun w' hw => hA0.cls0 hw)) (fun x2 ex2 h => ?_)
     refine U.y rfl (Y.loadE1 (u := .int .i64 x2) ag3 rfl (fun w' hw => hA0.cls0 hw) (idx_map ex2)) ?_
     refine U.y rfl (Y.move rfl) ?_
     refine U.y rfl (Y.move rfl) ?_
     refine U.m (V := fun _ => el u1 (gx1.toNat * 1)) h rfl (Y.indexM (g := I) (l := a1) Try.underlying25 sz3 rfl rfl (fun w' hw => hA1.cls0 hw)) (fun x3 ex3 h => ?_)
     refine U.y rfl (Y.loadE1 (u := .int .i64 x3) ag3 rfl (fun w' hw => hA1.cls0 hw) (idx_map ex3)) ?_
     refine U.ite h rfl (Y.neq rfl rfl) (fun c4 h => ?_) (fun c4 h => ?_)
     ·
      refine U.nil (E.thenN (W.condT rfl ?_))
      refine W.seq (W.region (L.y rfl (Y.assign rfl) ?_))
      refine L.nil (E.thenN (W.ret (E.blockR (E.thenR (E.KLR (E.blockR (E.KSR (E.ret1 rfl rfl (fun w1 hw => ?_)))))))))
      obtain rfl := Option.some.inj h
      exact ⟨_, _, rfl, ⟨rfl, rfl⟩, hw⟩
     ·
      refine U.nil (E.thenN (W.condF rfl ?_))
      refine W.skip (E.blockN (E.thenN (W.region (L.m (V := fun x5 => .int .i64 x5) h rfl (Y.addM rfl rfl) (fun x5 ex5 h => ?_)))))
      refine L.y rfl (Y.move rfl) ?_
      exact L.nil (E.againJ ⟨x5, rfl, rfl, by rw [hg1]; exact h⟩ (Nat.lt_succ_self _) ⟨rfl, rfl, rfl, rfl, trivial⟩ (fun _ hw => hw))
    ·
     refine L.nil (E.thenN (W.seq (W.condF rfl ?_)))
     exact W.exit (E.thenX (E.KLX (E.blockX (E.joinJ ⟨rfl, rfl, h⟩ trivial (fun _ hw => hw)))))
   ·
    rintro _ _ ⟨rfl, rfl, h⟩
    rw [m11_slices_Equal_int_K2] at h
    refine W.seq (W.region (L.y rfl (Y.assign rfl) ?_))
    refine L.nil (E.thenN (W.ret (E.ret1 rfl rfl (fun w1 hw => ?_))))
    obtain rfl := Option.some.inj h
    exact ⟨_, _, rfl, ⟨rfl, rfl⟩, hw⟩
set_option maxRecDepth 100000 in
set_option maxHeartbeats 8000000 in
theorem w13_quirref_Parts (a0 : Int) (a1 : (List TEdge)) (u1 : Value) (w : World) (r : (List (List Int))) (h : m13_quirref_Parts a0 a1 = some r) (hA1 : At w u1 2 (a1.map TEdge.row)) : Does Try.prog 13 [.int .i64 a0, u1] w fun u m => ∃ v0 q0, u = v0 ∧ m = [.sl v0 25 1 (zr svRow q0 r), .ss (zs (svSd 3 1 I) q0 r)] := by
  rw [m13_quirref_Parts] at h
  refine body (n := 58) Try.func13 rfl rfl rfl (Cls.refl w) ?_
  refine W.seq (W.region (L.y rfl (Y.assign rfl) ?_))
  refine L.nil (E.thenN (W.seq (W.region (L.y rfl (Y.move rfl) ?_))))
  refine L.y rfl (Y.move rfl) ?_
  obtain ⟨l1, e4, h⟩ := bind1S h
  refine L.does rfl en14 rfl (fun w' hw => w14_quirref_Closure a0 a1 u1 w' _ e4 (hA1.cls0 hw)) ?_
  rintro v2 _ ⟨_, q3, rfl, rfl⟩
  refine L.y rfl (Y.assign rfl) ?_
  refine L.nil (E.thenN (W.seq (W.region (L.y rfl (Y.assign rfl) ?_))))
  refine L.nil (E.thenN (W.seqJ (fun gs D => ∃ (gv1 : Value) (gl2 : (List (List Int))) (gq3 : Nat → List Value), gs = [(6, gv1)] ∧ D = Cls w [] [.sl gv1 25 1 (zr svRow gq3 gl2), .ss (zs (svSd 3 1 I) gq3 gl2)] ∧ m13_quirref_Parts_K1 gl2 = some r) ?_ ?_))
  ·
   refine W.seq (W.region (L.y rfl (Y.move rfl) ?_))
   refine L.y rfl (Y.move rfl) ?_
   refine L.nil (E.thenN (W.block (W.nilZ 25 1 svRow (svSd 3 1 I) (fun _ => []) ?_)))
   refine W.loopJ (fun m gs D => ∃ (gv4 : Value) (gl5 : (List (List Int))) (gq6 : Nat → List Value) (gx7 : Int), gs = [(0, .int .i64 a0), (5, v2), (6, gv4), (13, .int .i64 a0), (14, .int .i64 gx7)] ∧ D = Cls w [] [.sl v2 37 1 (zr svRow q3 l1), .ss (zs (svSd 4 1 B) q3 l1), .sl gv4 25 1 (zr svRow gq6 gl5), .ss (zs (svSd 3 1 I) gq6 gl5)] ∧ m13_quirref_Parts_L1 a0 l1 m gl5 gx7 = some r) ⟨.slice none 0 0, [], (fun _ => []), 0, rfl, rfl, h⟩ ⟨rfl, rfl, rfl, rfl, rfl, trivial⟩ (fun _ hw => hw.sel [2, 3, 0, 1] (by decide) rfl) ?_
   rintro m _ _ ⟨gv4, gl5, gq6, gx7, rfl, rfl, h⟩
   rcases m with _ | m
   · rw [m13_quirref_Parts_L1] at h; cases h
   rw [m13_quirref_Parts_L1] at h
   generalize hg1 : m13_quirref_Parts_L1 a0 l1 m = go1 at h
   rw [m13_quirref_Parts_L1B] at h
   refine W.seq (W.region (L.ite h rfl (Y.lss rfl rfl) (fun c5 h => ?_) (fun c5 h => ?_)))
   ·
    refine L.nil (E.thenN (W.seq (W.condT rfl ?_)))
    refine W.skip (E.thenN (W.seqJ (fun gs D => ∃ (gv8 : Value) (gl9 : (List (List Int))) (gq10 : Nat → List Value), gs = [(0, .int .i64 a0), (5, v2), (6, gv8), (13, .int .i64 a0), (14, .int .i64 gx7)] ∧ D = Cls w [] [.sl v2 37 1 (zr svRow q3 l1), .ss (zs (svSd 4 1 B) q3 l1), .sl gv8 25 1 (zr svRow gq10 gl9), .ss (zs (svSd 3 1 I) gq10 gl9)] ∧ m13_quirref_Parts_K2 gx7 go1 gl9 = some r) ?_ ?_))
    ·
     refine W.block (W.seq (W.region (L.y rfl (Y.move rfl) ?_)))
     refine L.y rfl (Y.assign rfl) ?_
     refine L.nil (E.thenN (W.seq (W.region (L.y rfl (Y.assign rfl) ?_))))
     refine L.nil (E.thenN (W.seqJ (fun gs D => ∃ (gv11 : Value) (gl12 : (List Int)), gs = [(0, .int .i64 a0), (5, v2), (6, gv4), (7, .int .i64 gx7), (8, gv11), (13, .int .i64 a0), (14, .int .i64 gx7)] ∧ D = Cls w [] [.sl v2 37 1 (zr svRow q3 l1), .ss (zs (svSd 4 1 B) q3 l1), .sl gv4 25 1 (zr svRow gq6 gl5), .ss (zs (svSd 3 1 I) gq6 gl5), .sl gv11 3 1 (gl12.map I)] ∧ m13_quirref_Parts_K3 gx7 gl5 go1 gl12 = some r) ?_ ?_))
     ·
      refine W.seq (W.region (L.y rfl (Y.move rfl) ?_))
      refine L.y rfl (Y.move rfl) ?_
      refine L.nil (E.thenN (W.block (W.nilSl 3 1 ?_)))
      refine W.loopJ (fun m gs D => ∃ (gv13 : Value) (gl14 : (List Int)) (gx15 : Int), gs = [(0, .int .i64 a0), (5, v2), (6, gv4), (7, .int .i64 gx7), (8, gv13), (13, .int .i64 a0), (14, .int .i64 gx7), (17, .int .i64 a0), (18, .int .i64 gx15)] ∧ D = Cls w [] [.sl v2 37 1 (zr svRow q3 l1), .ss (zs (svSd 4 1 B) q3 l1), .sl gv4 25 1 (zr svRow gq6 gl5), .ss (zs (svSd 3 1 I) gq6 gl5), .sl gv13 3 1 (gl14.map I)] ∧ m13_quirref_Parts_L2 a0 gx7 l1 gl5 go1 m gl14 gx15 = some r) ⟨.slice none 0 0, [], 0, rfl, rfl, h⟩ ⟨rfl, rfl, rfl, rfl, rfl, rfl, rfl, rfl, rfl, trivial⟩ (fun _ hw => hw.sel [1, 2, 3, 4, 0] (by decide) rfl) ?_
      rintro m _ _ ⟨gv13, gl14, gx15, rfl, rfl, h⟩
      rcases m with _ | m
      · rw [m13_quirref_Parts_L2] at h; cases h
      rw [m13_quirref_Parts_L2] at h
      generalize hg2 : m13_quirref_Parts_L2 a0 gx7 l1 gl5 go1 m = go2 at h
      rw [m13_quirref_Parts_L2B] at h
      refine W.seq (W.region (L.ite h rfl (Y.lss rfl rfl) (fun c14 h => ?_) (fun c14 h => ?_)))
      ·
       refine L.nil (E.thenN (W.seq (W.condT rfl ?_)))
       refine W.skip (E.thenN (W.seq (W.block (W.seq (W.region (L.y rfl (Y.move rfl) ?_))))))
       refine L.y rfl (Y.assign rfl) ?_
       refine L.nil (E.thenN (W.seq (W.region (L.y rfl (Y.move rfl) ?_))))
       refine L.y rfl (Y.move rfl) ?_
       refine L.ite h rfl (Y.eql rfl rfl) (fun c15 h => ?_) (fun c15 h => ?_)
       ·
        refine L.y rfl (Y.move rfl) ?_
        refine L.pass rfl rfl (by nofun) ?_
        refine L.pass rfl rfl (by nofun) ?_
        refine L.pass rfl rfl (by nofun) ?_
        refine L.pass rfl rfl (by nofun) ?_
        refine L.pass rfl rfl (by nofun) ?_
        refine L.pass rfl rfl (by nofun) ?_
        refine L.pass rfl rfl (by nofun) ?_
        refine L.pass rfl rfl (by nofun) ?_
        refine L.pass rfl rfl (by nofun) ?_
        refine L.pass rfl rfl (by nofun) ?_
        refine L.pass rfl rfl (by nofun) ?_
        refine L.pass rfl rfl (by nofun) ?_
        refine L.pass rfl rfl (by nofun) ?_
        refine L.pass rfl rfl (by nofun) ?_
        refine L.pass rfl rfl (by nofun) ?_
        refine L.pass rfl rfl (by nofun) ?_
        refine L.y rfl (Y.pickT rfl rfl) ?_
        refine L.nil (E.thenN (W.condT rfl ?_))
        refine W.region (L.y rfl (Y.move rfl) ?_)
        refine L.y rfl (Y.move rfl) ?_
        refine L.litOne rfl Try.underlying25 eL3 rfl rfl ?_
        intro b16
        refine L.appM (i := 5) (g := I) (l := gl14) (more := [gx15]) h rfl Try.underlying25 eL3 rfl rfl rfl (fun w hw => As.at_ (hw.get (i := 0) rfl)) (plain_ints _) rfl ?_
        intro v17 l18 el18 h
        refine L.y rfl (Y.assign rfl) ?_
        refine L.nil (E.blockN (E.thenN (W.region (L.m (V := fun x19 => .int .i64 x19) h rfl (Y.addM rfl rfl) (fun x19 ex19 h => ?_)))))
        refine L.y rfl (Y.move rfl) ?_
        exact L.nil (E.againJ ⟨v17, l18, x19, rfl, rfl, by rw [hg2]; exact h⟩ (Nat.lt_succ_self _) ⟨rfl, rfl, rfl, rfl, rfl, rfl, rfl, rfl, rfl, trivial⟩ (fun _ hw => hw.sel [2, 3, 4, 5, 0] (by decide) rfl))
       ·
        refine L.y rfl (Y.move rfl) ?_
        refine L.take rfl (L.y rfl (Y.move rfl) ?_)
        refine L.take rfl (L.y rfl (Y.move rfl) ?_)
        refine L.take rfl (L.m (V := fun _ => el v2 (gx15.toNat * 1)) h rfl (Y.indexMZ (row := svRow) (vs := q3) (l := l1) Try.underlying38 sz37 rfl rfl (fun w hw => As.at_ (hw.get (i := 0) rfl))) (fun x20 ex20 h => ?_))
        refine L.take rfl (L.y rfl (Y.loadE1 (u := gv (q3 gx15.toNat) 0) ag37 rfl (fun w hw => As.at_ (hw.get (i := 0) rfl)) (zr_idx (vs := q3) ex20)) ?_)
        refine L.take rfl (L.y rfl (Y.move rfl) ?_)
        refine L.take rfl (L.m (V := fun _ => el (gv (q3 gx15.toNat) 0) (gx7.toNat * 1)) h rfl (Y.indexM (g := B) (l := x20) Try.underlying37 sz4 rfl rfl (fun w hw => As.atZ (sds := (svSd 4 1 B)) (vs := q3) (j := 0) (c := 1) (hw.get (i := 1) rfl) (fun _ _ => rfl) ex20 rfl)) (fun x21 ex21 h => ?_))
        refine L.take rfl (L.iteB h rfl (Y.loadE1 (u := .bool x21) ag4 rfl (fun w hw => As.atZ (sds := (svSd 4 1 B)) (vs := q3) (j := 0) (c := 1) (hw.get (i := 1) rfl) (fun _ _ => rfl) ex20 rfl) (idx_map ex21)) (fun c22 h => ?_) (fun c22 h => ?_))
        ·
         refine L.take rfl (L.y rfl (Y.move rfl) ?_)
         refine L.take rfl (L.y rfl (Y.move rfl) ?_)
         refine L.take rfl (L.y rfl (Y.move rfl) ?_)
         refine L.take rfl (L.m (V := fun _ => el v2 (gx7.toNat * 1)) h rfl (Y.indexMZ (row := svRow) (vs := q3) (l := l1) Try.underlying38 sz37 rfl rfl (fun w hw => As.at_ (hw.get (i := 0) rfl))) (fun x23 ex23 h => ?_))
         refine L.take rfl (L.y rfl (Y.loadE1 (u := gv (q3 gx7.toNat) 0) ag37 rfl (fun w hw => As.at_ (hw.get (i := 0) rfl)) (zr_idx (vs := q3) ex23)) ?_)
         refine L.take rfl (L.y rfl (Y.move rfl) ?_)
         refine L.take rfl (L.m (V := fun _ => el (gv (q3 gx7.toNat) 0) (gx15.toNat * 1)) h rfl (Y.indexM (g := B) (l := x23) Try.underlying37 sz4 rfl rfl (fun w hw => As.atZ (sds := (svSd 4 1 B)) (vs := q3) (j := 0) (c := 1) (hw.get (i := 1) rfl) (fun _ _ => rfl) ex23 rfl)) (fun x24 ex24 h => ?_))
         refine L.take rfl (L.iteB h rfl (Y.loadE1 (u := .bool x24) ag4 rfl (fun w hw => As.atZ (sds := (svSd 4 1 B)) (vs := q3) (j := 0) (c := 1) (hw.get (i := 1) rfl) (fun _ _ => rfl) ex23 rfl) (idx_map ex24)) (fun c25 h => ?_) (fun c25 h => ?_))
         ·
          refine L.take rfl (L.y rfl (Y.pickT rfl rfl) ?_)
          refine L.y rfl (Y.pickF rfl rfl) ?_
          refine L.nil (E.thenN (W.condT rfl ?_))
          refine W.region (L.y rfl (Y.move rfl) ?_)
          refine L.y rfl (Y.move rfl) ?_
          refine L.litOne rfl Try.underlying25 eL3 rfl rfl ?_
          intro b26
          refine L.appM (i := 5) (g := I) (l := gl14) (more := [gx15]) h rfl Try.underlying25 eL3 rfl rfl rfl (fun w hw => As.at_ (hw.get (i := 0) rfl)) (plain_ints _) rfl ?_
          intro v27 l28 el28 h
          refine L.y rfl (Y.assign rfl) ?_
          refine L.nil (E.blockN (E.thenN (W.region (L.m (V := fun x29 => .int .i64 x29) h rfl (Y.addM rfl rfl) (fun x29 ex29 h => ?_)))))
          refine L.y rfl (Y.move rfl) ?_
          exact L.nil (E.againJ ⟨v27, l28, x29, rfl, rfl, by rw [hg2]; exact h⟩ (Nat.lt_succ_self _) ⟨rfl, rfl, rfl, rfl, rfl, rfl, rfl, rfl, rfl, trivial⟩ (fun _ hw => hw.sel [2, 3, 4, 5, 0] (by decide) rfl))
         ·
          refine L.take rfl (L.y rfl (Y.pickT rfl rfl) ?_)
          refine L.y rfl (Y.pickF rfl rfl) ?_
          refine L.nil (E.thenN (W.condF rfl ?_))
          refine W.skip (E.blockN (E.thenN (W.region (L.m (V := fun x30 => .int .i64 x30) h rfl (Y.addM rfl rfl) (fun x30 ex30 h => ?_)))))
          refine L.y rfl (Y.move rfl) ?_
          exact L.nil (E.againJ ⟨gv13, gl14, x30, rfl, rfl, by rw [hg2]; exact h⟩ (Nat.lt_succ_self _) ⟨rfl, rfl, rfl, rfl, rfl, rfl, rfl, rfl, rfl, trivial⟩ (fun _ hw => hw))
        ·
         refine L.take rfl (L.y rfl (Y.move rfl) ?_)
         refine L.pass rfl rfl (by nofun) ?_
         refine L.pass rfl rfl (by nofun) ?_
         refine L.pass rfl rfl (by nofun) ?_
         refine L.pass rfl rfl (by nofun) ?_
         refine L.pass rfl rfl (by nofun) ?_
         refine L.pass rfl rfl (by nofun) ?_
         refine L.pass rfl rfl (by nofun) ?_
         refine L.take rfl (L.y rfl (Y.pickF rfl rfl) ?_)
         refine L.y rfl (Y.pickF rfl rfl) ?_
         refine L.nil (E.thenN (W.condF rfl ?_))
         refine W.skip (E.blockN (E.thenN (W.region (L.m (V := fun x31 => .int .i64 x31) h rfl (Y.addM rfl rfl) (fun x31 ex31 h => ?_)))))
         refine L.y rfl (Y.move rfl) ?_
         exact L.nil (E.againJ ⟨gv13, gl14, x31, rfl, rfl, by rw [hg2]; exact h⟩ (Nat.lt_succ_self _) ⟨rfl, rfl, rfl, rfl, rfl, rfl, rfl, rfl, rfl, trivial⟩ (fun _ hw => hw))
      ·
       refine L.nil (E.thenN (W.seq (W.condF rfl ?_)))
       exact W.exit (E.thenX (E.KLX (E.blockX (E.joinJ ⟨gv13, gl14, rfl, rfl, h⟩ ⟨rfl, rfl, rfl, rfl, rfl, rfl, rfl, trivial⟩ (fun _ hw => hw)))))
     ·
      rintro _ _ ⟨gv11, gl12, rfl, rfl, h⟩
      rw [m13_quirref_Parts_K3] at h
      refine W.seq (W.region (L.y rfl (Y.move rfl) ?_))
      refine L.m (V := fun _ => el gv11 ((0 : Int).toNat * 1)) h rfl (Y.indexM (g := I) (l := gl12) Try.underlying25 sz3 rfl rfl (fun w hw => As.at_ (hw.get (i := 4) rfl))) (fun x7 ex7 h => ?_)
      refine L.y rfl (Y.loadE1 (u := .int .i64 x7) ag3 rfl (fun w hw => As.at_ (hw.get (i := 4) rfl)) (idx_map ex7)) ?_
      refine L.y rfl (Y.move rfl) ?_
      refine L.ite h rfl (Y.eql rfl rfl) (fun c8 h => ?_) (fun c8 h => ?_)
      ·
       refine L.nil (E.thenN (W.condT rfl ?_))
       refine W.region (L.y rfl (Y.move rfl) ?_)
       refine L.y rfl (Y.move rfl) ?_
       refine L.litOneC rfl Try.underlying28 eL25 rfl (fun w hw => At.cells1 (As.at_ (hw.get (i := 4) rfl))) ?_
       intro b10
       refine L.to (D := Cls w [] [.sl gv11 3 1 (gl12.map I), .sl (sv b10 1) 25 1 (zr svRow (fun _ => [gv11]) ([gl12])), .sl v2 37 1 (zr svRow q3 l1), .ss (zs (svSd 4 1 B) q3 l1), .sl gv4 25 1 (zr svRow gq6 gl5), .ss (zs (svSd 3 1 I) gq6 gl5)]) (fun _ hw => hw.sel [5, 0, 1, 2, 3, 4] (by decide) rfl) ?_
       refine L.gath [⟨gv11, 3, 1, gl12.map I⟩] ?_
       refine L.to (D := Cls w [] [.ss (zs (svSd 3 1 I) (fun _ => [gv11]) ([gl12])), .sl (sv b10 1) 25 1 (zr svRow (fun _ => [gv11]) ([gl12])), .sl v2 37 1 (zr svRow q3 l1), .ss (zs (svSd 4 1 B) q3 l1), .sl gv4 25 1 (zr svRow gq6 gl5), .ss (zs (svSd 3 1 I) gq6 gl5)]) (fun _ hw => hw) ?_
       refine L.to (D := Cls w [] [.sl gv4 25 1 (zr svRow gq6 gl5), .ss (zs (svSd 3 1 I) gq6 gl5), .sl (sv b10 1) 25 1 (zr svRow (fun _ => [gv11]) ([gl12])), .ss (zs (svSd 3 1 I) (fun _ => [gv11]) ([gl12])), .sl v2 37 1 (zr svRow q3 l1), .ss (zs (svSd 4 1 B) q3 l1)]) (fun _ hw => hw.sel [4, 5, 1, 0, 2, 3] (by decide) rfl) ?_
       refine L.appZ (row := svRow) (sds := (svSd 3 1 I)) (vs := gq6) (vs2 := (fun _ => [gv11])) (l := gl5) (l2 := [gl12]) h rfl Try.underlying28 eL25 rfl rfl rfl (fun w hw => plain_zr plz_sv (As.ssOne (hw.get (i := 3) rfl))) ?_
       intro v12 q13 l11 el11 h
       refine L.y rfl (Y.assign rfl) ?_
       exact L.nil (E.blockN (E.joinJ ⟨v12, l11, q13, rfl, rfl, h⟩ ⟨rfl, rfl, rfl, rfl, rfl, trivial⟩ (fun _ hw => hw.sel [2, 3, 0, 1] (by decide) rfl)))
      ·
       refine L.nil (E.thenN (W.condF rfl ?_))
       exact W.skip (E.blockN (E.joinJ ⟨gv4, gl5, gq6, rfl, rfl, h⟩ ⟨rfl, rfl, rfl, rfl, rfl, trivial⟩ (fun _ hw => hw.sel [0, 1, 2, 3] (by decide) rfl)))
    ·
     rintro _ _ ⟨gv8, gl9, gq10, rfl, rfl, h⟩
     rw [m13_quirref_Parts_K2] at h
     refine W.region (L.m (V := fun x6 => .int .i64 x6) h rfl (Y.addM rfl rfl) (fun x6 ex6 h => ?_))
     refine L.y rfl (Y.move rfl) ?_
     exact L.nil (E.againJ ⟨gv8, gl9, gq10, x6, rfl, rfl, by rw [hg1]; exact h⟩ (Nat.lt_succ_self _) ⟨rfl, rfl, rfl, rfl, rfl, trivial⟩ (fun _ hw => hw))
   ·
    refine L.nil (E.thenN (W.seq (W.condF rfl ?_)))
    exact W.exit (E.thenX (E.KLX (E.blockX (E.joinJ ⟨gv4, gl5, gq6, rfl, rfl, h⟩ ⟨rfl, trivial⟩ (fun _ hw => hw.sel [2, 3] (by decide) rfl)))))
  ·
   rintro _ _ ⟨gv1, gl2, gq3, rfl, rfl, h⟩
   rw [m13_quirref_Parts_K1] at h
   refine W.seq (W.region (L.y rfl (Y.move rfl) ?_))
   refine L.y rfl (Y.assign rfl) ?_
   refine L.nil (E.thenN (W.ret (E.ret1 rfl rfl (fun w1 hw => ?_))))
   obtain rfl := Option.some.inj h
   exact ⟨_, _, rfl, ⟨_, _, rfl, rfl⟩, hw⟩
end Go.Proofs.Ytjhcdmcikodgkaa
