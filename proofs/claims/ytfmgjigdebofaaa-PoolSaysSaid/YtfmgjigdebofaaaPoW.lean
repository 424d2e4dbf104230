/-
  Walks, printed by a program of mine.
  Conditions: none.
-/
import Derived.Test.YtfmgjigdebofaaaPoM
import Derived.Test.YtfmgjigdebofaaaChecked
import Derived.KernelRfl
import Derived.Test.YtfmgjigdebofaaaSo
namespace Go.Proofs.Ytfmgjigdebofaaa
open Go.S
set_option linter.unusedVariables false
set_option linter.unusedSimpArgs false
theorem mixed : Try.prog.follows .mixedOrders = true := by kernel_rfl
theorem ag3 : aggB Try.prog 3 false = true := by kernel_rfl
theorem ag4 : aggB Try.prog 4 false = true := by kernel_rfl
theorem ag24 : aggB Try.prog 24 false = true := by kernel_rfl
theorem ag32 : aggB Try.prog 32 false = true := by kernel_rfl
theorem ag183 : aggB Try.prog 183 false = true := by kernel_rfl
theorem ag221 : aggB Try.prog 221 true = true := by kernel_rfl
theorem el3 : elemB Try.prog 3 1 8 = true := by kernel_rfl
theorem el4 : elemB Try.prog 4 1 1 = true := by kernel_rfl
theorem el183 : elemB Try.prog 183 1 8 = true := by kernel_rfl
theorem en42 : entB Try.prog 42 = true := by kernel_rfl
theorem en64 : entB Try.prog 64 = true := by kernel_rfl
theorem en65 : entB Try.prog 65 = true := by kernel_rfl
theorem en66 : entB Try.prog 66 = true := by kernel_rfl
theorem en67 : entB Try.prog 67 = true := by kernel_rfl
theorem en68 : entB Try.prog 68 = true := by kernel_rfl
theorem en69 : entB Try.prog 69 = true := by kernel_rfl
theorem en70 : entB Try.prog 70 = true := by kernel_rfl
theorem en71 : entB Try.prog 71 = true := by kernel_rfl
theorem en117 : entB Try.prog 117 = true := by kernel_rfl
theorem en118 : entB Try.prog 118 = true := by kernel_rfl
theorem en119 : entB Try.prog 119 = true := by kernel_rfl
theorem en120 : entB Try.prog 120 = true := by kernel_rfl
theorem en121 : entB Try.prog 121 = true := by kernel_rfl
theorem en122 : entB Try.prog 122 = true := by kernel_rfl
theorem en123 : entB Try.prog 123 = true := by kernel_rfl
theorem en124 : entB Try.prog 124 = true := by kernel_rfl
theorem en125 : entB Try.prog 125 = true := by kernel_rfl
theorem en126 : entB Try.prog 126 = true := by kernel_rfl
theorem en127 : entB Try.prog 127 = true := by kernel_rfl
theorem fd185_0 : fieldB Try.prog 185 0 0 = true := by kernel_rfl
theorem fd185_1 : fieldB Try.prog 185 1 1 = true := by kernel_rfl
theorem sz3 : szB Try.prog 3 1 = true := by kernel_rfl
theorem sz4 : szB Try.prog 4 1 = true := by kernel_rfl
theorem sz32 : szB Try.prog 32 1 = true := by kernel_rfl
theorem sz183 : szB Try.prog 183 1 = true := by kernel_rfl
theorem sz185 : szB Try.prog 185 2 = true := by kernel_rfl
theorem sz221 : szB Try.prog 221 2 = true := by kernel_rfl
theorem ze3 : zeroB Try.prog 3 = some [.int .i64 0] := by kernel_rfl
theorem ze32 : zeroB Try.prog 32 = some [.nilFunc] := by kernel_rfl
theorem ze221 : zeroB Try.prog 221 = some (List.replicate 2 (.int .i64 0)) := by kernel_rfl
theorem plain_TframeOf (l : List TframeOf) : Plain (l.map TframeOf.row) := by
  intro r hr u hu
  obtain ⟨x, _, rfl⟩ := List.mem_map.1 hr
  simp only [TframeOf.row, List.mem_cons, List.not_mem_nil, or_false] at hu
  rcases hu with rfl | rfl <;> rfl
set_option maxRecDepth 100000 in
set_option maxHeartbeats 8000000 in
theorem w64_pool_Check (a0 : Int) (a1 : (List Int)) (u1 : Value) (w : World) (r : Int) (h : m64_pool_Check a0 a1 = some r) (hA1 : At w u1 1 (a1.map I)) : Does Try.prog 64 [.int .i64 a0, u1] w fun u m => u = .int .i64 r ∧ m = [] := by
  rw [m64_pool_Check] at h
  refine body (n := 14) Try.func64 rfl rfl rfl (Cls.refl w) ?_
  refine W.seq (W.region (L.y rfl (Y.assign rfl) ?_))
  refine L.nil (E.thenN (W.seq (W.seq (W.region (L.y rfl (Y.move rfl) ?_)))))
  refine L.ite h rfl (Y.lss rfl rfl) (fun c1 h => ?_) (fun c1 h => ?_)
  ·
   refine L.y rfl (Y.move rfl) ?_
   refine L.pass rfl rfl (by nofun) ?_
   refine L.pass rfl rfl (by nofun) ?_
   refine L.y rfl (Y.pickT rfl rfl) ?_
   refine L.nil (E.thenN (W.condT rfl ?_))
   refine W.seq (W.region (L.y rfl (Y.assign rfl) ?_))
   refine L.nil (E.thenN (W.ret (E.thenR (E.ret1 rfl rfl (fun w1 hw => ?_)))))
   obtain rfl := Option.some.inj h
   exact ⟨_, _, rfl, ⟨rfl, rfl⟩, hw⟩
  ·
   refine L.y rfl (Y.move rfl) ?_
   refine L.take rfl (L.y rfl (Y.move rfl) ?_)
   refine L.take rfl (L.ite h rfl (Y.gtr rfl rfl) (fun c2 h => ?_) (fun c2 h => ?_))
   ·
    refine L.y rfl (Y.pickF rfl rfl) ?_
    refine L.nil (E.thenN (W.condT rfl ?_))
    refine W.seq (W.region (L.y rfl (Y.assign rfl) ?_))
    refine L.nil (E.thenN (W.ret (E.thenR (E.ret1 rfl rfl (fun w1 hw => ?_)))))
    obtain rfl := Option.some.inj h
    exact ⟨_, _, rfl, ⟨rfl, rfl⟩, hw⟩
   ·
    refine L.y rfl (Y.pickF rfl rfl) ?_
    refine L.nil (E.thenN (W.condF rfl ?_))
    refine W.skip (E.thenN (W.seq (W.seq (W.region (L.y rfl (Y.move rfl) ?_)))))
    refine L.y rfl (Y.lenM (g := I) (l := a1) Try.underlying24 rfl (fun w' hw => hA1.cls0 hw)) ?_
    refine L.ite h rfl (Y.gtr rfl rfl) (fun c3 h => ?_) (fun c3 h => ?_)
    ·
     refine L.nil (E.thenN (W.condT rfl ?_))
     refine W.seq (W.region (L.y rfl (Y.assign rfl) ?_))
     refine L.nil (E.thenN (W.ret (E.thenR (E.ret1 rfl rfl (fun w1 hw => ?_)))))
     obtain rfl := Option.some.inj h
     exact ⟨_, _, rfl, ⟨rfl, rfl⟩, hw⟩
    ·
     refine L.nil (E.thenN (W.condF rfl ?_))
     refine W.skip (E.thenN (W.seq (W.region (L.y rfl (Y.assign rfl) ?_))))
     refine L.nil (E.thenN (W.ret (E.ret1 rfl rfl (fun w1 hw => ?_))))
     obtain rfl := Option.some.inj h
     exact ⟨_, _, rfl, ⟨rfl, rfl⟩, hw⟩
set_option maxRecDepth 100000 in
set_option maxHeartbeats 8000000 in
theorem w121_slices_Index_int (a0 : (List Int)) (a1 : Int) (u0 : Value) (w : World) (r : Int) (h : m121_slices_Index_int a0 a1 = some r) (hA0 : At w u0 1 (a0.map I)) : Does Try.prog 121 [u0, .int .i64 a1] w fun u m => u = .int .i64 r ∧ m = [] := by
  rw [m121_slices_Index_int] at h
  refine body (n := 19) Try.func121 rfl rfl rfl (Cls.refl w) ?_
  refine W.seq (W.region (L.y rfl (Y.assign rfl) ?_))
  refine L.nil (E.thenN (W.seqJ (fun gs D => gs = [] ∧ D = Cls w [] [] ∧ m121_slices_Index_int_K1 = some r) ?_ ?_))
  ·
   refine W.seq (W.region (L.y rfl (Y.move rfl) ?_))
   refine L.y rfl (Y.lenM (g := I) (l := a0) Try.underlying24 rfl (fun w' hw => hA0.cls0 hw)) ?_
   refine L.y rfl (Y.move rfl) ?_
   refine L.nil (E.thenN (W.block (W.loopJ (fun m gs D => ∃ (gx1 : Int), gs = [(0, u0), (1, .int .i64 a1), (7, .int .i64 (a0.length : Int)), (8, .int .i64 gx1)] ∧ D = Cls w [] [] ∧ m121_slices_Index_int_L1 a0 a1 m gx1 = some r) ⟨0, rfl, rfl, h⟩ ⟨rfl, rfl, rfl, rfl, trivial⟩ (fun _ hw => hw) ?_)))
   rintro m _ _ ⟨gx1, rfl, rfl, h⟩
   rcases m with _ | m
   · rw [m121_slices_Index_int_L1] at h; cases h
   rw [m121_slices_Index_int_L1] at h
   generalize hg1 : m121_slices_Index_int_L1 a0 a1 m = go1 at h
   rw [m121_slices_Index_int_L1B] at h
   refine W.seq (W.region (L.ite h rfl (Y.lss rfl rfl) (fun c1 h => ?_) (fun c1 h => ?_)))
   ·
    refine L.nil (E.thenN (W.seq (W.condT rfl ?_)))
    refine W.skip (E.thenN (W.seq (W.block (W.seq (W.region (L.y rfl (Y.move rfl) ?_))))))
    refine L.y rfl (Y.assign rfl) ?_
    refine L.nil (E.thenN (W.seq (W.region (L.y rfl (Y.move rfl) ?_))))
    refine L.y rfl (Y.move rfl) ?_
    refine L.y rfl (Y.move rfl) ?_
    refine L.m (V := fun _ => el u0 (gx1.toNat * 1)) h rfl (Y.indexM (g := I) (l := a0) Try.underlying24 sz3 rfl rfl (fun w' hw => hA0.cls0 hw)) (fun x2 ex2 h => ?_)
    refine L.y rfl (Y.loadE1 (u := .int .i64 x2) ag3 rfl (fun w' hw => hA0.cls0 hw) (idx_map ex2)) ?_
    refine L.ite h rfl (Y.eql rfl rfl) (fun c3 h => ?_) (fun c3 h => ?_)
    ·
     refine L.nil (E.thenN (W.condT rfl ?_))
     refine W.seq (W.region (L.y rfl (Y.move rfl) ?_))
     refine L.y rfl (Y.assign rfl) ?_
     refine L.nil (E.thenN (W.ret (E.blockR (E.thenR (E.KLR (E.blockR (E.KSR (E.ret1 rfl rfl (fun w1 hw => ?_)))))))))
     obtain rfl := Option.some.inj h
     exact ⟨_, _, rfl, ⟨rfl, rfl⟩, hw⟩
    ·
     refine L.nil (E.thenN (W.condF rfl ?_))
     refine W.skip (E.blockN (E.thenN (W.region (L.m (V := fun x4 => .int .i64 x4) h rfl (Y.addM rfl rfl) (fun x4 ex4 h => ?_)))))
     refine L.y rfl (Y.move rfl) ?_
     exact L.nil (E.againJ ⟨x4, rfl, rfl, by rw [hg1]; exact h⟩ (Nat.lt_succ_self _) ⟨rfl, rfl, rfl, rfl, trivial⟩ (fun _ hw => hw))
   ·
    refine L.nil (E.thenN (W.seq (W.condF rfl ?_)))
    exact W.exit (E.thenX (E.KLX (E.blockX (E.joinJ ⟨rfl, rfl, h⟩ trivial (fun _ hw => hw)))))
  ·
   rintro _ _ ⟨rfl, rfl, h⟩
   rw [m121_slices_Index_int_K1] at h
   refine W.seq (W.region (L.y rfl (Y.assign rfl) ?_))
   refine L.nil (E.thenN (W.ret (E.ret1 rfl rfl (fun w1 hw => ?_))))
   obtain rfl := Option.some.inj h
   exact ⟨_, _, rfl, ⟨rfl, rfl⟩, hw⟩
set_option maxRecDepth 100000 in
set_option maxHeartbeats 8000000 in
theorem w118_pool_oldest (a0 : (List Int)) (a1 : Int) (u0 : Value) (w : World) (r : Int) (h : m118_pool_oldest a0 a1 = some r) (hA0 : At w u0 1 (a0.map I)) : Does Try.prog 118 [u0, .int .i64 a1] w fun u m => u = .int .i64 r ∧ m = [] := by
  rw [m118_pool_oldest] at h
  refine body (n := 5) Try.func118 rfl rfl rfl (Cls.refl w) ?_
  refine W.seq (W.region (L.y rfl (Y.assign rfl) ?_))
  refine L.nil (E.thenN (W.seq (W.region (L.y rfl (Y.assign rfl) ?_))))
  refine L.nil (E.thenN (W.ret (E.ret1 rfl rfl (fun w1 hw => ?_))))
  obtain rfl := Option.some.inj h
  exact ⟨_, _, rfl, ⟨rfl, rfl⟩, hw⟩
set_option maxRecDepth 100000 in
set_option maxHeartbeats 8000000 in
theorem w65_pool_Fifo (a0 : Int) (a1 : (List Int)) (u1 : Value) (w : World) (r : ((List Bool) × (List Int) × Int)) (h : m65_pool_Fifo a0 a1 = some r) (hA1 : At w u1 1 (a1.map I)) : Does Try.prog 65 [.int .i64 a0, u1] w fun u m => ∃ v0 v1, u = .tuple #[v0, v1, .int .i64 r.2.2] ∧ m = [.sl v0 4 1 (r.1.map B), .sl v1 3 1 (r.2.1.map I)] := by
  rw [m65_pool_Fifo] at h
  refine body (n := 24) Try.func65 rfl rfl rfl (Cls.refl w) ?_
  refine W.seq (W.region (L.y rfl (Y.assign rfl) ?_))
  refine L.y rfl (Y.assign rfl) ?_
  refine L.y rfl (Y.assign rfl) ?_
  refine L.nil (E.thenN (W.seqJ (fun gs D => gs = [(0, .int .i64 a0), (1, u1)] ∧ D = Cls w [] [] ∧ m65_pool_Fifo_K1 a1 a0 = some r) ?_ ?_))
  ·
   refine W.seq (W.region (L.y rfl (Y.move rfl) ?_))
   refine L.y rfl (Y.move rfl) ?_
   obtain ⟨x20, e21, h⟩ := bind1S h
   refine L.y rfl (Y.does en64 rfl (fun w' hw => (w64_pool_Check a0 a1 u1 w' _ e21 (hA1.cls0 hw)).mono (fun _ _ h => h.1))) ?_
   refine L.y rfl (Y.assign rfl) ?_
   refine L.nil (E.thenN (W.seq (W.region (L.y rfl (Y.move rfl) ?_))))
   refine L.ite h rfl (Y.neq rfl rfl) (fun c22 h => ?_) (fun c22 h => ?_)
   ·
    refine L.nil (E.thenN (W.condT rfl ?_))
    refine W.seq (W.region (L.y rfl (Y.move rfl) ?_))
    refine L.y rfl (Y.assign rfl) ?_
    refine L.y rfl (Y.assign rfl) ?_
    refine L.y rfl (Y.assign rfl) ?_
    refine L.nil (E.thenN (W.ret (E.KSR (E.ret3 rfl rfl rfl rfl (fun w1 hw => ?_)))))
    obtain rfl := Option.some.inj h
    exact ⟨_, _, rfl, ⟨_, _, rfl, rfl⟩, ((hw.nilSl 4 1).nilSl 3 1).sel [1, 0] (by decide) rfl⟩
   ·
    refine L.nil (E.thenN (W.condF rfl ?_))
    exact W.skip (E.joinJ ⟨rfl, rfl, h⟩ ⟨rfl, rfl, trivial⟩ (fun _ hw => hw))
  ·
   rintro _ _ ⟨rfl, rfl, h⟩
   rw [m65_pool_Fifo_K1] at h
   refine W.seq (W.region (L.y rfl (Y.move rfl) ?_))
   refine L.y rfl (Y.move rfl) ?_
   refine L.callJ (fun v D => ∃ (gv1 : Value) (gl2 : (List Bool)) (gv3 : Value) (gl4 : (List Int)), v = .tuple #[gv1, gv3] ∧ D = Cls w [] [.sl gv1 4 1 (gl2.map B), .sl gv3 3 1 (gl4.map I)] ∧ m65_pool_Fifo_K2 gl2 gl4 = some r) rfl en117 rfl Try.func117 rfl rfl rfl ?_ ?_
   ·
    refine W.seq (W.region (L.y rfl (Y.assign rfl) ?_))
    refine L.y rfl (Y.assign rfl) ?_
    refine L.nil (E.thenN (W.seq (W.region (L.y rfl (Y.assign rfl) ?_))))
    refine L.nil (E.thenN (W.seq (W.region (L.y rfl (Y.assign rfl) ?_))))
    refine L.nil (E.thenN (W.seqJ (fun gs D => ∃ (gv5 : Value) (gl6 : (List Bool)) (gv7 : Value) (gl8 : (List Int)), gs = [(10, gv5), (11, gv7)] ∧ D = Cls w [] [.sl gv5 4 1 (gl6.map B), .sl gv7 3 1 (gl8.map I)] ∧ m65_pool_Fifo_K3 gl6 gl8 = some r) ?_ ?_))
    ·
     refine W.seq (W.region (L.y rfl (Y.move rfl) ?_))
     refine L.y rfl (Y.lenM (g := I) (l := a1) Try.underlying24 rfl (fun w' hw => hA1.cls0 hw)) ?_
     refine L.y rfl (Y.move rfl) ?_
     refine L.nil (E.thenN (W.block (W.nilSl 4 1 ?_)))
     refine W.nilSl 3 1 ?_
     refine W.loopJ (fun m gs D => ∃ (gv9 : Value) (gl10 : (List Bool)) (gv11 : Value) (gl12 : (List Int)) (gx13 : Int), gs = [(0, .int .i64 a0), (2, .func (.func 118) #[] #[]), (3, .func (.func 119) #[] #[]), (10, gv9), (11, gv11), (16, u1), (17, .int .i64 (a1.length : Int)), (18, .int .i64 gx13)] ∧ D = Cls w [] [.sl gv9 4 1 (gl10.map B), .sl gv11 3 1 (gl12.map I)] ∧ m65_pool_Fifo_L1 a1 a0 m gl10 gl12 gx13 = some r) ⟨.slice none 0 0, [], .slice none 0 0, [], 0, rfl, rfl, h⟩ ⟨rfl, rfl, rfl, rfl, rfl, rfl, rfl, rfl, trivial⟩ (fun _ hw => hw.sel [1, 0] (by decide) rfl) ?_
     rintro m _ _ ⟨gv9, gl10, gv11, gl12, gx13, rfl, rfl, h⟩
     rcases m with _ | m
     · rw [m65_pool_Fifo_L1] at h; cases h
     rw [m65_pool_Fifo_L1] at h
     generalize hg1 : m65_pool_Fifo_L1 a1 a0 m = go1 at h
     rw [m65_pool_Fifo_L1B] at h
     refine W.seq (W.region (L.ite h rfl (Y.lss rfl rfl) (fun c1 h => ?_) (fun c1 h => ?_)))
     ·
      refine L.nil (E.thenN (W.seq (W.condT rfl ?_)))
      refine W.skip (E.thenN (W.seqJ (fun gs D => ∃ (gv14 : Value) (gl15 : (List Bool)) (gv16 : Value) (gl17 : (List Int)), gs = [(0, .int .i64 a0), (2, .func (.func 118) #[] #[]), (3, .func (.func 119) #[] #[]), (10, gv14), (11, gv16), (16, u1), (17, .int .i64 (a1.length : Int)), (18, .int .i64 gx13)] ∧ D = Cls w [] [.sl gv14 4 1 (gl15.map B), .sl gv16 3 1 (gl17.map I)] ∧ m65_pool_Fifo_K4 gx13 go1 gl15 gl17 = some r) ?_ ?_))
      ·
       refine W.block (W.seq (W.region (L.y rfl (Y.move rfl) ?_)))
       refine L.m (V := fun _ => el u1 (gx13.toNat * 1)) h rfl (Y.indexM (g := I) (l := a1) Try.underlying24 sz3 rfl rfl (fun w' hw => hA1.cls0 hw)) (fun x3 ex3 h => ?_)
       refine L.y rfl (Y.loadE1 (u := .int .i64 x3) ag3 rfl (fun w' hw => hA1.cls0 hw) (idx_map ex3)) ?_
       refine L.y rfl (Y.assign rfl) ?_
       refine L.y rfl (Y.assign rfl) ?_
       refine L.nil (E.thenN (W.seq (W.region (L.y rfl (Y.move rfl) ?_))))
       refine L.y rfl (Y.move rfl) ?_
       obtain ⟨x4, e5, h⟩ := bind1S h
       refine L.y rfl (Y.does en121 rfl (fun w' hw => (w121_slices_Index_int gl12 x3 gv11 w' _ e5 (As.at_ (hw.get (i := 1) rfl))).mono (fun _ _ h => h.1))) ?_
       refine L.y rfl (Y.assign rfl) ?_
       refine L.nil (E.thenN (W.seq (W.region (L.y rfl (Y.move rfl) ?_))))
       refine L.y rfl (Y.move rfl) ?_
       refine L.y rfl (Y.geq rfl rfl) ?_
       refine L.litOne rfl Try.underlying54 el4 rfl rfl ?_
       intro b6
       refine L.appM (i := 1) (g := B) (l := gl10) (more := [decide (0 ≤ x4)]) h rfl Try.underlying54 el4 rfl rfl rfl (fun w hw => As.at_ (hw.get (i := 0) rfl)) (plain_bools _) rfl ?_
       intro v7 l8 el8 h
       refine L.y rfl (Y.assign rfl) ?_
       refine L.nil (E.thenN (W.seqJ (fun gs D => gs = [(0, .int .i64 a0), (2, .func (.func 118) #[] #[]), (3, .func (.func 119) #[] #[]), (10, v7), (11, gv11), (12, .int .i64 gx13), (13, .int .i64 x3), (16, u1), (17, .int .i64 (a1.length : Int)), (18, .int .i64 gx13)] ∧ D = Cls w [] [.sl v7 4 1 (l8.map B), .sl gv11 3 1 (gl12.map I)] ∧ m65_pool_Fifo_K5 gl12 a0 x3 gx13 go1 l8 = some r) ?_ ?_))
       ·
        refine W.seq (W.region (L.y rfl (Y.move rfl) ?_))
        refine L.ite h rfl (Y.geq rfl rfl) (fun c19 h => ?_) (fun c19 h => ?_)
        ·
         refine L.nil (E.thenN (W.condT rfl ?_))
         refine W.seq (W.region (L.y rfl (Y.move rfl) ?_))
         refine L.y rfl (Y.move rfl) ?_
         refine L.y rfl (Y.move rfl) ?_
         refine L.callVJ (fun v D => v = gv11 ∧ D = Cls w [] [.sl v7 4 1 (l8.map B), .sl gv11 3 1 (gl12.map I)] ∧ m65_pool_Fifo_K7 gx13 go1 l8 gl12 = some r) rfl en119 rfl rfl Try.func119 rfl rfl rfl ?_ ?_
         ·
          refine W.seq (W.region (L.y rfl (Y.assign rfl) ?_))
          refine L.nil (E.thenN (W.seq (W.region (L.y rfl (Y.move rfl) ?_))))
          refine L.y rfl (Y.assign rfl) ?_
          refine L.nil (E.thenN (W.ret (E.ret1 rfl rfl (fun w1 hw => ?_))))
          exact ⟨_, _, rfl, ⟨rfl, rfl, h⟩, hw.sel [0, 2] (by decide) rfl⟩
         ·
          rintro gv11 _ ⟨rfl, rfl, h⟩
          rw [m65_pool_Fifo_K7] at h
          refine L.y rfl (Y.assign rfl) ?_
          exact L.nil (E.thenN (W.exit (E.KSX (E.blockX (E.joinJ ⟨v7, l8, gv11, gl12, rfl, rfl, h⟩ ⟨rfl, rfl, rfl, rfl, rfl, rfl, rfl, rfl, trivial⟩ (fun _ hw => hw))))))
        ·
         refine L.nil (E.thenN (W.condF rfl ?_))
         exact W.skip (E.joinJ ⟨rfl, rfl, h⟩ ⟨rfl, rfl, rfl, rfl, rfl, rfl, rfl, rfl, rfl, rfl, trivial⟩ (fun _ hw => hw.sel [0, 2] (by decide) rfl))
       ·
        rintro _ _ ⟨rfl, rfl, h⟩
        rw [m65_pool_Fifo_K5] at h
        refine W.seq (W.seq (W.region (L.y rfl (Y.move rfl) ?_)))
        refine L.y rfl (Y.lenM (g := I) (l := gl12) Try.underlying24 rfl (fun w hw => As.at_ (hw.get (i := 1) rfl))) ?_
        refine L.y rfl (Y.move rfl) ?_
        refine L.ite h rfl (Y.eql rfl rfl) (fun c9 h => ?_) (fun c9 h => ?_)
        ·
         refine L.nil (E.thenN (W.condT rfl ?_))
         refine W.seq (W.region (L.y rfl (Y.move rfl) ?_))
         refine L.y rfl (Y.move rfl) ?_
         refine L.y rfl (Y.move rfl) ?_
         refine L.callVJ (fun v D => v = .int .i64 0 ∧ D = Cls w [] [.sl v7 4 1 (l8.map B), .sl gv11 3 1 (gl12.map I)] ∧ m65_pool_Fifo_K6 gl12 x3 gx13 go1 l8 = some r) rfl en118 rfl rfl Try.func118 rfl rfl rfl ?_ ?_
         ·
          refine W.seq (W.region (L.y rfl (Y.assign rfl) ?_))
          refine L.nil (E.thenN (W.seq (W.region (L.y rfl (Y.assign rfl) ?_))))
          refine L.nil (E.thenN (W.ret (E.ret1 rfl rfl (fun w1 hw => ?_))))
          exact ⟨_, _, rfl, ⟨rfl, rfl, h⟩, hw⟩
         ·
          rintro _ _ ⟨rfl, rfl, h⟩
          rw [m65_pool_Fifo_K6] at h
          refine L.y rfl (Y.assign rfl) ?_
          refine L.nil (E.thenN (W.region (L.y rfl (Y.move rfl) ?_)))
          refine L.y rfl (Y.move rfl) ?_
          refine L.y rfl (Y.move rfl) ?_
          refine L.m (V := fun x10 => .int .i64 x10) h rfl (Y.addM rfl rfl) (fun x10 ex10 h => ?_)
          refine L.delMD (i := 1) (l := gl12) (a := 0) (b := x10) h wDel rfl en122 rfl rfl rfl rfl ?_
          intro v12 l11 el11 h
          refine L.y rfl (Y.assign rfl) ?_
          refine L.nil (E.thenN (W.region (L.y rfl (Y.move rfl) ?_)))
          refine L.y rfl (Y.move rfl) ?_
          refine L.litOne rfl Try.underlying24 el3 rfl rfl ?_
          intro b13
          refine L.appM (i := 2) (g := I) (l := l11) (more := [x3]) h rfl Try.underlying24 el3 rfl rfl rfl (fun w hw => As.at_ (hw.get (i := 0) rfl)) (plain_ints _) rfl ?_
          intro v14 l15 el15 h
          refine L.y rfl (Y.assign rfl) ?_
          exact L.nil (E.blockN (E.joinJ ⟨v7, l8, v14, l15, rfl, rfl, h⟩ ⟨rfl, rfl, rfl, rfl, rfl, rfl, rfl, rfl, trivial⟩ (fun _ hw => hw.sel [2, 0] (by decide) rfl)))
        ·
         refine L.nil (E.thenN (W.condF rfl ?_))
         refine W.skip (E.thenN (W.region (L.y rfl (Y.move rfl) ?_)))
         refine L.y rfl (Y.move rfl) ?_
         refine L.litOne rfl Try.underlying24 el3 rfl rfl ?_
         intro b16
         refine L.appM (i := 2) (g := I) (l := gl12) (more := [x3]) h rfl Try.underlying24 el3 rfl rfl rfl (fun w hw => As.at_ (hw.get (i := 0) rfl)) (plain_ints _) rfl ?_
         intro v17 l18 el18 h
         refine L.y rfl (Y.assign rfl) ?_
         exact L.nil (E.blockN (E.joinJ ⟨v7, l8, v17, l18, rfl, rfl, h⟩ ⟨rfl, rfl, rfl, rfl, rfl, rfl, rfl, rfl, trivial⟩ (fun _ hw => hw.sel [2, 0] (by decide) rfl)))
      ·
       rintro _ _ ⟨gv14, gl15, gv16, gl17, rfl, rfl, h⟩
       rw [m65_pool_Fifo_K4] at h
       refine W.region (L.m (V := fun x2 => .int .i64 x2) h rfl (Y.addM rfl rfl) (fun x2 ex2 h => ?_))
       refine L.y rfl (Y.move rfl) ?_
       exact L.nil (E.againJ ⟨gv14, gl15, gv16, gl17, x2, rfl, rfl, by rw [hg1]; exact h⟩ (Nat.lt_succ_self _) ⟨rfl, rfl, rfl, rfl, rfl, rfl, rfl, rfl, trivial⟩ (fun _ hw => hw))
     ·
      refine L.nil (E.thenN (W.seq (W.condF rfl ?_)))
      exact W.exit (E.thenX (E.KLX (E.blockX (E.joinJ ⟨gv9, gl10, gv11, gl12, rfl, rfl, h⟩ ⟨rfl, rfl, trivial⟩ (fun _ hw => hw)))))
    ·
     rintro _ _ ⟨gv5, gl6, gv7, gl8, rfl, rfl, h⟩
     rw [m65_pool_Fifo_K3] at h
     refine W.seq (W.region (L.y rfl (Y.move rfl) ?_))
     refine L.y rfl (Y.move rfl) ?_
     refine L.y rfl (Y.assign rfl) ?_
     refine L.y rfl (Y.assign rfl) ?_
     refine L.nil (E.thenN (W.ret (E.ret2 rfl rfl rfl (fun w1 hw => ?_))))
     exact ⟨_, _, rfl, ⟨gv5, gl6, gv7, gl8, rfl, rfl, h⟩, hw⟩
   ·
    rintro _ _ ⟨gv1, gl2, gv3, gl4, rfl, rfl, h⟩
    rw [m65_pool_Fifo_K2] at h
    refine L.y rfl (Y.move rfl) ?_
    refine L.y rfl (Y.extract rfl rfl) ?_
    refine L.y rfl (Y.extract rfl rfl) ?_
    refine L.y rfl (Y.assign rfl) ?_
    refine L.y rfl (Y.assign rfl) ?_
    refine L.nil (E.thenN (W.seq (W.region (L.y rfl (Y.move rfl) ?_))))
    refine L.y rfl (Y.move rfl) ?_
    refine L.y rfl (Y.assign rfl) ?_
    refine L.y rfl (Y.assign rfl) ?_
    refine L.y rfl (Y.assign rfl) ?_
    refine L.nil (E.thenN (W.ret (E.ret3 rfl rfl rfl rfl (fun w1 hw => ?_))))
    obtain rfl := Option.some.inj h
    exact ⟨_, _, rfl, ⟨_, _, rfl, rfl⟩, hw⟩
set_option maxRecDepth 100000 in
set_option maxHeartbeats 8000000 in
theorem w66_pool_Lru (a0 : Int) (a1 : (List Int)) (u1 : Value) (w : World) (r : ((List Bool) × (List Int) × Int)) (h : m66_pool_Lru a0 a1 = some r) (hA1 : At w u1 1 (a1.map I)) : Does Try.prog 66 [.int .i64 a0, u1] w fun u m => ∃ v0 v1, u = .tuple #[v0, v1, .int .i64 r.2.2] ∧ m = [.sl v0 4 1 (r.1.map B), .sl v1 3 1 (r.2.1.map I)] := by
  rw [m66_pool_Lru] at h
  refine body (n := 26) Try.func66 rfl rfl rfl (Cls.refl w) ?_
  refine W.seq (W.region (L.y rfl (Y.assign rfl) ?_))
  refine L.y rfl (Y.assign rfl) ?_
  refine L.y rfl (Y.assign rfl) ?_
  refine L.nil (E.thenN (W.seqJ (fun gs D => gs = [(0, .int .i64 a0), (1, u1)] ∧ D = Cls w [] [] ∧ m66_pool_Lru_K1 a1 a0 = some r) ?_ ?_))
  ·
   refine W.seq (W.region (L.y rfl (Y.move rfl) ?_))
   refine L.y rfl (Y.move rfl) ?_
   obtain ⟨x28, e29, h⟩ := bind1S h
   refine L.y rfl (Y.does en64 rfl (fun w' hw => (w64_pool_Check a0 a1 u1 w' _ e29 (hA1.cls0 hw)).mono (fun _ _ h => h.1))) ?_
   refine L.y rfl (Y.assign rfl) ?_
   refine L.nil (E.thenN (W.seq (W.region (L.y rfl (Y.move rfl) ?_))))
   refine L.ite h rfl (Y.neq rfl rfl) (fun c30 h => ?_) (fun c30 h => ?_)
   ·
    refine L.nil (E.thenN (W.condT rfl ?_))
    refine W.seq (W.region (L.y rfl (Y.move rfl) ?_))
    refine L.y rfl (Y.assign rfl) ?_
    refine L.y rfl (Y.assign rfl) ?_
    refine L.y rfl (Y.assign rfl) ?_
    refine L.nil (E.thenN (W.ret (E.KSR (E.ret3 rfl rfl rfl rfl (fun w1 hw => ?_)))))
    obtain rfl := Option.some.inj h
    exact ⟨_, _, rfl, ⟨_, _, rfl, rfl⟩, ((hw.nilSl 4 1).nilSl 3 1).sel [1, 0] (by decide) rfl⟩
   ·
    refine L.nil (E.thenN (W.condF rfl ?_))
    exact W.skip (E.joinJ ⟨rfl, rfl, h⟩ ⟨rfl, rfl, trivial⟩ (fun _ hw => hw))
  ·
   rintro _ _ ⟨rfl, rfl, h⟩
   rw [m66_pool_Lru_K1] at h
   refine W.seq (W.region (L.y rfl (Y.assign rfl) ?_))
   refine L.nil (E.thenN (W.seq (W.region (L.y rfl (Y.move rfl) ?_))))
   refine L.y rfl (Y.move rfl) ?_
   refine L.y rfl (Y.move rfl) ?_
   refine L.callJ (fun v D => ∃ (gv1 : Value) (gl2 : (List Bool)) (gv3 : Value) (gl4 : (List Int)), v = .tuple #[gv1, gv3] ∧ D = Cls w [] [.sl gv1 4 1 (gl2.map B), .sl gv3 3 1 (gl4.map I)] ∧ m66_pool_Lru_K2 gl2 gl4 = some r) rfl en117 rfl Try.func117 rfl rfl rfl ?_ ?_
   ·
    refine W.seq (W.region (L.y rfl (Y.assign rfl) ?_))
    refine L.y rfl (Y.assign rfl) ?_
    refine L.nil (E.thenN (W.seq (W.region (L.y rfl (Y.assign rfl) ?_))))
    refine L.nil (E.thenN (W.seq (W.region (L.y rfl (Y.assign rfl) ?_))))
    refine L.nil (E.thenN (W.seqJ (fun gs D => ∃ (gv5 : Value) (gl6 : (List Bool)) (gv7 : Value) (gl8 : (List Int)), gs = [(10, gv5), (11, gv7)] ∧ D = Cls w [] [.sl gv5 4 1 (gl6.map B), .sl gv7 3 1 (gl8.map I)] ∧ m66_pool_Lru_K3 gl6 gl8 = some r) ?_ ?_))
    ·
     refine W.seq (W.region (L.y rfl (Y.move rfl) ?_))
     refine L.y rfl (Y.lenM (g := I) (l := a1) Try.underlying24 rfl (fun w' hw => hA1.cls0 hw)) ?_
     refine L.y rfl (Y.move rfl) ?_
     refine L.nil (E.thenN (W.block (W.nilSl 4 1 ?_)))
     refine W.nilSl 3 1 ?_
     refine W.loopJ (fun m gs D => ∃ (gv9 : Value) (gl10 : (List Bool)) (gv11 : Value) (gl12 : (List Int)) (gx13 : Int), gs = [(0, .int .i64 a0), (2, .func (.func 118) #[] #[]), (3, .func (.func 120) #[] #[]), (10, gv9), (11, gv11), (16, u1), (17, .int .i64 (a1.length : Int)), (18, .int .i64 gx13)] ∧ D = Cls w [] [.sl gv9 4 1 (gl10.map B), .sl gv11 3 1 (gl12.map I)] ∧ m66_pool_Lru_L1 a1 a0 m gl10 gl12 gx13 = some r) ⟨.slice none 0 0, [], .slice none 0 0, [], 0, rfl, rfl, h⟩ ⟨rfl, rfl, rfl, rfl, rfl, rfl, rfl, rfl, trivial⟩ (fun _ hw => hw.sel [1, 0] (by decide) rfl) ?_
     rintro m _ _ ⟨gv9, gl10, gv11, gl12, gx13, rfl, rfl, h⟩
     rcases m with _ | m
     · rw [m66_pool_Lru_L1] at h; cases h
     rw [m66_pool_Lru_L1] at h
     generalize hg1 : m66_pool_Lru_L1 a1 a0 m = go1 at h
     rw [m66_pool_Lru_L1B] at h
     refine W.seq (W.region (L.ite h rfl (Y.lss rfl rfl) (fun c1 h => ?_) (fun c1 h => ?_)))
     ·
      refine L.nil (E.thenN (W.seq (W.condT rfl ?_)))
      refine W.skip (E.thenN (W.seqJ (fun gs D => ∃ (gv14 : Value) (gl15 : (List Bool)) (gv16 : Value) (gl17 : (List Int)), gs = [(0, .int .i64 a0), (2, .func (.func 118) #[] #[]), (3, .func (.func 120) #[] #[]), (10, gv14), (11, gv16), (16, u1), (17, .int .i64 (a1.length : Int)), (18, .int .i64 gx13)] ∧ D = Cls w [] [.sl gv14 4 1 (gl15.map B), .sl gv16 3 1 (gl17.map I)] ∧ m66_pool_Lru_K4 gx13 go1 gl15 gl17 = some r) ?_ ?_))
      ·
       refine W.block (W.seq (W.region (L.y rfl (Y.move rfl) ?_)))
       refine L.m (V := fun _ => el u1 (gx13.toNat * 1)) h rfl (Y.indexM (g := I) (l := a1) Try.underlying24 sz3 rfl rfl (fun w' hw => hA1.cls0 hw)) (fun x3 ex3 h => ?_)
       refine L.y rfl (Y.loadE1 (u := .int .i64 x3) ag3 rfl (fun w' hw => hA1.cls0 hw) (idx_map ex3)) ?_
       refine L.y rfl (Y.assign rfl) ?_
       refine L.y rfl (Y.assign rfl) ?_
       refine L.nil (E.thenN (W.seq (W.region (L.y rfl (Y.move rfl) ?_))))
       refine L.y rfl (Y.move rfl) ?_
       obtain ⟨x4, e5, h⟩ := bind1S h
       refine L.y rfl (Y.does en121 rfl (fun w' hw => (w121_slices_Index_int gl12 x3 gv11 w' _ e5 (As.at_ (hw.get (i := 1) rfl))).mono (fun _ _ h => h.1))) ?_
       refine L.y rfl (Y.assign rfl) ?_
       refine L.nil (E.thenN (W.seq (W.region (L.y rfl (Y.move rfl) ?_))))
       refine L.y rfl (Y.move rfl) ?_
       refine L.y rfl (Y.geq rfl rfl) ?_
       refine L.litOne rfl Try.underlying54 el4 rfl rfl ?_
       intro b6
       refine L.appM (i := 1) (g := B) (l := gl10) (more := [decide (0 ≤ x4)]) h rfl Try.underlying54 el4 rfl rfl rfl (fun w hw => As.at_ (hw.get (i := 0) rfl)) (plain_bools _) rfl ?_
       intro v7 l8 el8 h
       refine L.y rfl (Y.assign rfl) ?_
       refine L.nil (E.thenN (W.seqJ (fun gs D => gs = [(0, .int .i64 a0), (2, .func (.func 118) #[] #[]), (3, .func (.func 120) #[] #[]), (10, v7), (11, gv11), (12, .int .i64 gx13), (13, .int .i64 x3), (16, u1), (17, .int .i64 (a1.length : Int)), (18, .int .i64 gx13)] ∧ D = Cls w [] [.sl v7 4 1 (l8.map B), .sl gv11 3 1 (gl12.map I)] ∧ m66_pool_Lru_K5 gl12 a0 x3 gx13 go1 l8 = some r) ?_ ?_))
       ·
        refine W.seq (W.region (L.y rfl (Y.move rfl) ?_))
        refine L.ite h rfl (Y.geq rfl rfl) (fun c19 h => ?_) (fun c19 h => ?_)
        ·
         refine L.nil (E.thenN (W.condT rfl ?_))
         refine W.seq (W.region (L.y rfl (Y.move rfl) ?_))
         refine L.y rfl (Y.move rfl) ?_
         refine L.y rfl (Y.move rfl) ?_
         refine L.callVJ (fun v D => ∃ (gv18 : Value) (gl19 : (List Int)), v = gv18 ∧ D = Cls w [] [.sl v7 4 1 (l8.map B), .sl gv18 3 1 (gl19.map I)] ∧ m66_pool_Lru_K7 gx13 go1 l8 gl19 = some r) rfl en120 rfl rfl Try.func120 rfl rfl rfl ?_ ?_
         ·
          refine W.seq (W.region (L.y rfl (Y.assign rfl) ?_))
          refine L.nil (E.thenN (W.seq (W.region (L.y rfl (Y.move rfl) ?_))))
          refine L.y rfl (Y.move rfl) ?_
          obtain ⟨x20, e21, h⟩ := bind1S h
          refine L.y rfl (Y.does en121 rfl (fun w' hw => (w121_slices_Index_int gl12 x3 gv11 w' _ e21 (As.at_ (hw.get (i := 2) rfl))).mono (fun _ _ h => h.1))) ?_
          refine L.y rfl (Y.assign rfl) ?_
          refine L.nil (E.thenN (W.seq (W.region (L.y rfl (Y.move rfl) ?_))))
          refine L.y rfl (Y.move rfl) ?_
          refine L.y rfl (Y.move rfl) ?_
          refine L.m (V := fun x22 => .int .i64 x22) h rfl (Y.addM rfl rfl) (fun x22 ex22 h => ?_)
          refine L.delMD (i := 2) (l := gl12) (a := x20) (b := x22) h wDel rfl en122 rfl rfl rfl rfl ?_
          intro v24 l23 el23 h
          refine L.y rfl (Y.move rfl) ?_
          refine L.litOne rfl Try.underlying24 el3 rfl rfl ?_
          intro b25
          refine L.appM (i := 3) (g := I) (l := l23) (more := [x3]) h rfl Try.underlying24 el3 rfl rfl rfl (fun w hw => As.at_ (hw.get (i := 0) rfl)) (plain_ints _) rfl ?_
          intro v26 l27 el27 h
          refine L.y rfl (Y.assign rfl) ?_
          refine L.nil (E.thenN (W.ret (E.ret1 rfl rfl (fun w1 hw => ?_))))
          exact ⟨_, _, rfl, ⟨v26, l27, rfl, rfl, h⟩, hw.sel [2, 0] (by decide) rfl⟩
         ·
          rintro gv18 _ ⟨_, gl19, rfl, rfl, h⟩
          rw [m66_pool_Lru_K7] at h
          refine L.y rfl (Y.assign rfl) ?_
          exact L.nil (E.thenN (W.exit (E.KSX (E.blockX (E.joinJ ⟨v7, l8, gv18, gl19, rfl, rfl, h⟩ ⟨rfl, rfl, rfl, rfl, rfl, rfl, rfl, rfl, trivial⟩ (fun _ hw => hw))))))
        ·
         refine L.nil (E.thenN (W.condF rfl ?_))
         exact W.skip (E.joinJ ⟨rfl, rfl, h⟩ ⟨rfl, rfl, rfl, rfl, rfl, rfl, rfl, rfl, rfl, rfl, trivial⟩ (fun _ hw => hw.sel [0, 2] (by decide) rfl))
       ·
        rintro _ _ ⟨rfl, rfl, h⟩
        rw [m66_pool_Lru_K5] at h
        refine W.seq (W.seq (W.region (L.y rfl (Y.move rfl) ?_)))
        refine L.y rfl (Y.lenM (g := I) (l := gl12) Try.underlying24 rfl (fun w hw => As.at_ (hw.get (i := 1) rfl))) ?_
        refine L.y rfl (Y.move rfl) ?_
        refine L.ite h rfl (Y.eql rfl rfl) (fun c9 h => ?_) (fun c9 h => ?_)
        ·
         refine L.nil (E.thenN (W.condT rfl ?_))
         refine W.seq (W.region (L.y rfl (Y.move rfl) ?_))
         refine L.y rfl (Y.move rfl) ?_
         refine L.y rfl (Y.move rfl) ?_
         refine L.callVJ (fun v D => v = .int .i64 0 ∧ D = Cls w [] [.sl v7 4 1 (l8.map B), .sl gv11 3 1 (gl12.map I)] ∧ m66_pool_Lru_K6 gl12 x3 gx13 go1 l8 = some r) rfl en118 rfl rfl Try.func118 rfl rfl rfl ?_ ?_
         ·
          refine W.seq (W.region (L.y rfl (Y.assign rfl) ?_))
          refine L.nil (E.thenN (W.seq (W.region (L.y rfl (Y.assign rfl) ?_))))
          refine L.nil (E.thenN (W.ret (E.ret1 rfl rfl (fun w1 hw => ?_))))
          exact ⟨_, _, rfl, ⟨rfl, rfl, h⟩, hw⟩
         ·
          rintro _ _ ⟨rfl, rfl, h⟩
          rw [m66_pool_Lru_K6] at h
          refine L.y rfl (Y.assign rfl) ?_
          refine L.nil (E.thenN (W.region (L.y rfl (Y.move rfl) ?_)))
          refine L.y rfl (Y.move rfl) ?_
          refine L.y rfl (Y.move rfl) ?_
          refine L.m (V := fun x10 => .int .i64 x10) h rfl (Y.addM rfl rfl) (fun x10 ex10 h => ?_)
          refine L.delMD (i := 1) (l := gl12) (a := 0) (b := x10) h wDel rfl en122 rfl rfl rfl rfl ?_
          intro v12 l11 el11 h
          refine L.y rfl (Y.assign rfl) ?_
          refine L.nil (E.thenN (W.region (L.y rfl (Y.move rfl) ?_)))
          refine L.y rfl (Y.move rfl) ?_
          refine L.litOne rfl Try.underlying24 el3 rfl rfl ?_
          intro b13
          refine L.appM (i := 2) (g := I) (l := l11) (more := [x3]) h rfl Try.underlying24 el3 rfl rfl rfl (fun w hw => As.at_ (hw.get (i := 0) rfl)) (plain_ints _) rfl ?_
          intro v14 l15 el15 h
          refine L.y rfl (Y.assign rfl) ?_
          exact L.nil (E.blockN (E.joinJ ⟨v7, l8, v14, l15, rfl, rfl, h⟩ ⟨rfl, rfl, rfl, rfl, rfl, rfl, rfl, rfl, trivial⟩ (fun _ hw => hw.sel [2, 0] (by decide) rfl)))
        ·
         refine L.nil (E.thenN (W.condF rfl ?_))
         refine W.skip (E.thenN (W.region (L.y rfl (Y.move rfl) ?_)))
         refine L.y rfl (Y.move rfl) ?_
         refine L.litOne rfl Try.underlying24 el3 rfl rfl ?_
         intro b16
         refine L.appM (i := 2) (g := I) (l := gl12) (more := [x3]) h rfl Try.underlying24 el3 rfl rfl rfl (fun w hw => As.at_ (hw.get (i := 0) rfl)) (plain_ints _) rfl ?_
         intro v17 l18 el18 h
         refine L.y rfl (Y.assign rfl) ?_
         exact L.nil (E.blockN (E.joinJ ⟨v7, l8, v17, l18, rfl, rfl, h⟩ ⟨rfl, rfl, rfl, rfl, rfl, rfl, rfl, rfl, trivial⟩ (fun _ hw => hw.sel [2, 0] (by decide) rfl)))
      ·
       rintro _ _ ⟨gv14, gl15, gv16, gl17, rfl, rfl, h⟩
       rw [m66_pool_Lru_K4] at h
       refine W.region (L.m (V := fun x2 => .int .i64 x2) h rfl (Y.addM rfl rfl) (fun x2 ex2 h => ?_))
       refine L.y rfl (Y.move rfl) ?_
       exact L.nil (E.againJ ⟨gv14, gl15, gv16, gl17, x2, rfl, rfl, by rw [hg1]; exact h⟩ (Nat.lt_succ_self _) ⟨rfl, rfl, rfl, rfl, rfl, rfl, rfl, rfl, trivial⟩ (fun _ hw => hw))
     ·
      refine L.nil (E.thenN (W.seq (W.condF rfl ?_)))
      exact W.exit (E.thenX (E.KLX (E.blockX (E.joinJ ⟨gv9, gl10, gv11, gl12, rfl, rfl, h⟩ ⟨rfl, rfl, trivial⟩ (fun _ hw => hw)))))
    ·
     rintro _ _ ⟨gv5, gl6, gv7, gl8, rfl, rfl, h⟩
     rw [m66_pool_Lru_K3] at h
     refine W.seq (W.region (L.y rfl (Y.move rfl) ?_))
     refine L.y rfl (Y.move rfl) ?_
     refine L.y rfl (Y.assign rfl) ?_
     refine L.y rfl (Y.assign rfl) ?_
     refine L.nil (E.thenN (W.ret (E.ret2 rfl rfl rfl (fun w1 hw => ?_))))
     exact ⟨_, _, rfl, ⟨gv5, gl6, gv7, gl8, rfl, rfl, h⟩, hw⟩
   ·
    rintro _ _ ⟨gv1, gl2, gv3, gl4, rfl, rfl, h⟩
    rw [m66_pool_Lru_K2] at h
    refine L.y rfl (Y.move rfl) ?_
    refine L.y rfl (Y.extract rfl rfl) ?_
    refine L.y rfl (Y.extract rfl rfl) ?_
    refine L.y rfl (Y.assign rfl) ?_
    refine L.y rfl (Y.assign rfl) ?_
    refine L.nil (E.thenN (W.seq (W.region (L.y rfl (Y.move rfl) ?_))))
    refine L.y rfl (Y.move rfl) ?_
    refine L.y rfl (Y.assign rfl) ?_
    refine L.y rfl (Y.assign rfl) ?_
    refine L.y rfl (Y.assign rfl) ?_
    refine L.nil (E.thenN (W.ret (E.ret3 rfl rfl rfl rfl (fun w1 hw => ?_))))
    obtain rfl := Option.some.inj h
    exact ⟨_, _, rfl, ⟨_, _, rfl, rfl⟩, hw⟩
set_option maxRecDepth 100000 in
set_option maxHeartbeats 8000000 in
theorem w67_pool_Best (a0 : Int) (a1 : (List Int)) (u1 : Value) (w : World) (r : ((List Bool) × (List Int) × Int)) (h : m67_pool_Best a0 a1 = some r) (hA1 : At w u1 1 (a1.map I)) : Does Try.prog 67 [.int .i64 a0, u1] w fun u m => ∃ v0 v1, u = .tuple #[v0, v1, .int .i64 r.2.2] ∧ m = [.sl v0 4 1 (r.1.map B), .sl v1 3 1 (r.2.1.map I)] := by
  rw [m67_pool_Best] at h
  refine body (n := 29) Try.func67 rfl rfl rfl (Cls.refl w) ?_
  refine W.seq (W.region (L.boxV rfl rfl (fun _ hw => (At.cls0 hA1 hw).one) ?_))
  intro b1
  refine L.y rfl (Y.assign rfl) ?_
  refine L.y rfl (Y.assign rfl) ?_
  refine L.y rfl (Y.assign rfl) ?_
  refine L.nil (E.thenN (W.seqJ (fun gs D => gs = [(0, .int .i64 a0), (3, pt b1 0)] ∧ D = Cls w [] [.obj b1 [u1] 24] ∧ m67_pool_Best_K1 a1 a0 = some r) ?_ ?_))
  ·
   refine W.seq (W.region (L.y rfl (Y.move rfl) ?_))
   refine L.y rfl (Y.loadP (i := 0) ag24 rfl rfl rfl) ?_
   obtain ⟨x40, e41, h⟩ := bind1S h
   refine L.y rfl (Y.does en64 rfl (fun w' hw => (w64_pool_Check a0 a1 u1 w' _ e41 (hA1.cls0 hw)).mono (fun _ _ h => h.1))) ?_
   refine L.y rfl (Y.assign rfl) ?_
   refine L.nil (E.thenN (W.seq (W.region (L.y rfl (Y.move rfl) ?_))))
   refine L.ite h rfl (Y.neq rfl rfl) (fun c42 h => ?_) (fun c42 h => ?_)
   ·
    refine L.nil (E.thenN (W.condT rfl ?_))
    refine W.seq (W.region (L.y rfl (Y.move rfl) ?_))
    refine L.y rfl (Y.assign rfl) ?_
    refine L.y rfl (Y.assign rfl) ?_
    refine L.y rfl (Y.assign rfl) ?_
    refine L.nil (E.thenN (W.ret (E.KSR (E.ret3 rfl rfl rfl rfl (fun w1 hw => ?_)))))
    obtain rfl := Option.some.inj h
    exact ⟨_, _, rfl, ⟨_, _, rfl, rfl⟩, ((hw.nilSl 4 1).nilSl 3 1).sel [1, 0] (by decide) rfl⟩
   ·
    refine L.nil (E.thenN (W.condF rfl ?_))
    exact W.skip (E.joinJ ⟨rfl, rfl, h⟩ ⟨rfl, rfl, trivial⟩ (fun _ hw => hw))
  ·
   rintro _ _ ⟨rfl, rfl, h⟩
   rw [m67_pool_Best_K1] at h
   refine W.seq (W.region (L.y rfl (Y.func rfl) ?_))
   refine L.alloc rfl ze32 ?_
   intro b2
   refine L.store (i := 0) (vs := [.func (.func 123) #[] #[pt b1 0]]) sz32 rfl rfl rfl rfl (by simp [Value.oneCell', Value.cells, st, pt]) rfl (Nat.le_of_ble_eq_true rfl) ?_
   refine L.nil (E.thenN (W.seq (W.region (L.y rfl (Y.func rfl) ?_))))
   refine L.y rfl (Y.assign rfl) ?_
   refine L.nil (E.thenN (W.seq (W.region (L.y rfl (Y.move rfl) ?_))))
   refine L.y rfl (Y.loadP (i := 1) ag24 rfl rfl rfl) ?_
   refine L.y rfl (Y.move rfl) ?_
   refine L.callJ (fun v D => ∃ (gv1 : Value) (gl2 : (List Bool)) (gv3 : Value) (gl4 : (List Int)), v = .tuple #[gv1, gv3] ∧ D = Cls w [] [.sl gv1 4 1 (gl2.map B), .sl gv3 3 1 (gl4.map I)] ∧ m67_pool_Best_K2 gl2 gl4 = some r) rfl en117 rfl Try.func117 rfl rfl rfl ?_ ?_
   ·
    refine W.seq (W.region (L.y rfl (Y.assign rfl) ?_))
    refine L.y rfl (Y.assign rfl) ?_
    refine L.nil (E.thenN (W.seq (W.region (L.y rfl (Y.assign rfl) ?_))))
    refine L.nil (E.thenN (W.seq (W.region (L.y rfl (Y.assign rfl) ?_))))
    refine L.nil (E.thenN (W.seqJ (fun gs D => ∃ (gv5 : Value) (gl6 : (List Bool)) (gv7 : Value) (gl8 : (List Int)), gs = [(10, gv5), (11, gv7)] ∧ D = Cls w [] [.sl gv5 4 1 (gl6.map B), .sl gv7 3 1 (gl8.map I)] ∧ m67_pool_Best_K3 gl6 gl8 = some r) ?_ ?_))
    ·
     refine W.seq (W.region (L.y rfl (Y.move rfl) ?_))
     refine L.y rfl (Y.lenM (g := I) (l := a1) Try.underlying24 rfl (fun w' hw => hA1.cls0 hw)) ?_
     refine L.y rfl (Y.move rfl) ?_
     refine L.nil (E.thenN (W.block (W.nilSl 4 1 ?_)))
     refine W.nilSl 3 1 ?_
     refine W.loopJ (fun m gs D => ∃ (gv9 : Value) (gl10 : (List Bool)) (gv11 : Value) (gl12 : (List Int)) (gx13 : Int), gs = [(0, .int .i64 a0), (2, .func (.func 124) #[] #[pt b2 0]), (3, .func (.func 119) #[] #[]), (10, gv9), (11, gv11), (16, u1), (17, .int .i64 (a1.length : Int)), (18, .int .i64 gx13)] ∧ D = Cls w [] [.obj b2 [.func (.func 123) #[] #[pt b1 0]] 32, .obj b1 [u1] 24, .sl gv9 4 1 (gl10.map B), .sl gv11 3 1 (gl12.map I)] ∧ m67_pool_Best_L1 a1 a0 m gl10 gl12 gx13 = some r) ⟨.slice none 0 0, [], .slice none 0 0, [], 0, rfl, rfl, h⟩ ⟨rfl, rfl, rfl, rfl, rfl, rfl, rfl, rfl, trivial⟩ (fun _ hw => hw.sel [2, 3, 1, 0] (by decide) rfl) ?_
     rintro m _ _ ⟨gv9, gl10, gv11, gl12, gx13, rfl, rfl, h⟩
     rcases m with _ | m
     · rw [m67_pool_Best_L1] at h; cases h
     rw [m67_pool_Best_L1] at h
     generalize hg1 : m67_pool_Best_L1 a1 a0 m = go1 at h
     rw [m67_pool_Best_L1B] at h
     refine W.seq (W.region (L.ite h rfl (Y.lss rfl rfl) (fun c3 h => ?_) (fun c3 h => ?_)))
     ·
      refine L.nil (E.thenN (W.seq (W.condT rfl ?_)))
      refine W.skip (E.thenN (W.seq (W.block (W.seq (W.region (L.y rfl (Y.move rfl) ?_))))))
      refine L.m (V := fun _ => el u1 (gx13.toNat * 1)) h rfl (Y.indexM (g := I) (l := a1) Try.underlying24 sz3 rfl rfl (fun w' hw => hA1.cls0 hw)) (fun x4 ex4 h => ?_)
      refine L.y rfl (Y.loadE1 (u := .int .i64 x4) ag3 rfl (fun w' hw => hA1.cls0 hw) (idx_map ex4)) ?_
      refine L.y rfl (Y.assign rfl) ?_
      refine L.y rfl (Y.assign rfl) ?_
      refine L.nil (E.thenN (W.seq (W.region (L.y rfl (Y.move rfl) ?_))))
      refine L.y rfl (Y.move rfl) ?_
      obtain ⟨x5, e6, h⟩ := bind1S h
      refine L.y rfl (Y.does en121 rfl (fun w' hw => (w121_slices_Index_int gl12 x4 gv11 w' _ e6 (As.at_ (hw.get (i := 3) rfl))).mono (fun _ _ h => h.1))) ?_
      refine L.y rfl (Y.assign rfl) ?_
      refine L.nil (E.thenN (W.seq (W.region (L.y rfl (Y.move rfl) ?_))))
      refine L.y rfl (Y.move rfl) ?_
      refine L.y rfl (Y.geq rfl rfl) ?_
      refine L.litOne rfl Try.underlying54 el4 rfl rfl ?_
      intro b7
      refine L.appM (i := 3) (g := B) (l := gl10) (more := [decide (0 ≤ x5)]) h rfl Try.underlying54 el4 rfl rfl rfl (fun w hw => As.at_ (hw.get (i := 0) rfl)) (plain_bools _) rfl ?_
      intro v8 l9 el9 h
      refine L.y rfl (Y.assign rfl) ?_
      refine L.nil (E.thenN (W.seqJ (fun gs D => gs = [(0, .int .i64 a0), (2, .func (.func 124) #[] #[pt b2 0]), (3, .func (.func 119) #[] #[]), (10, v8), (11, gv11), (12, .int .i64 gx13), (13, .int .i64 x4), (16, u1), (17, .int .i64 (a1.length : Int)), (18, .int .i64 gx13)] ∧ D = Cls w [] [.obj b2 [.func (.func 123) #[] #[pt b1 0]] 32, .obj b1 [u1] 24, .sl v8 4 1 (l9.map B), .sl gv11 3 1 (gl12.map I)] ∧ m67_pool_Best_K4 gl12 a0 a1 gx13 x4 go1 l9 = some r) ?_ ?_))
      ·
       refine W.seq (W.region (L.y rfl (Y.move rfl) ?_))
       refine L.ite h rfl (Y.geq rfl rfl) (fun c38 h => ?_) (fun c38 h => ?_)
       ·
        refine L.nil (E.thenN (W.condT rfl ?_))
        refine W.seq (W.region (L.y rfl (Y.move rfl) ?_))
        refine L.y rfl (Y.move rfl) ?_
        refine L.y rfl (Y.move rfl) ?_
        refine L.callVJ (fun v D => v = gv11 ∧ D = Cls w [] [.obj b2 [.func (.func 123) #[] #[pt b1 0]] 32, .obj b1 [u1] 24, .sl v8 4 1 (l9.map B), .sl gv11 3 1 (gl12.map I)] ∧ m67_pool_Best_K9 gx13 go1 l9 gl12 = some r) rfl en119 rfl rfl Try.func119 rfl rfl rfl ?_ ?_
        ·
         refine W.seq (W.region (L.y rfl (Y.assign rfl) ?_))
         refine L.nil (E.thenN (W.seq (W.region (L.y rfl (Y.move rfl) ?_))))
         refine L.y rfl (Y.assign rfl) ?_
         refine L.nil (E.thenN (W.ret (E.ret1 rfl rfl (fun w1 hw => ?_))))
         exact ⟨_, _, rfl, ⟨rfl, rfl, h⟩, hw.sel [2, 3, 0, 4] (by decide) rfl⟩
        ·
         rintro gv11 _ ⟨rfl, rfl, h⟩
         rw [m67_pool_Best_K9] at h
         refine L.y rfl (Y.assign rfl) ?_
         refine L.nil (E.thenN (W.exit (E.KSX (E.blockX (E.thenN (W.region (L.m (V := fun x39 => .int .i64 x39) h rfl (Y.addM rfl rfl) (fun x39 ex39 h => ?_))))))))
         refine L.y rfl (Y.move rfl) ?_
         exact L.nil (E.againJ ⟨v8, l9, gv11, gl12, x39, rfl, rfl, by rw [hg1]; exact h⟩ (Nat.lt_succ_self _) ⟨rfl, rfl, rfl, rfl, rfl, rfl, rfl, rfl, trivial⟩ (fun _ hw => hw))
       ·
        refine L.nil (E.thenN (W.condF rfl ?_))
        exact W.skip (E.joinJ ⟨rfl, rfl, h⟩ ⟨rfl, rfl, rfl, rfl, rfl, rfl, rfl, rfl, rfl, rfl, trivial⟩ (fun _ hw => hw.sel [2, 3, 0, 4] (by decide) rfl))
      ·
       rintro _ _ ⟨rfl, rfl, h⟩
       rw [m67_pool_Best_K4] at h
       refine W.seq (W.seq (W.region (L.y rfl (Y.move rfl) ?_)))
       refine L.y rfl (Y.lenM (g := I) (l := gl12) Try.underlying24 rfl (fun w hw => As.at_ (hw.get (i := 3) rfl))) ?_
       refine L.y rfl (Y.move rfl) ?_
       refine L.ite h rfl (Y.eql rfl rfl) (fun c10 h => ?_) (fun c10 h => ?_)
       ·
        refine L.nil (E.thenN (W.condT rfl ?_))
        refine W.seq (W.region (L.y rfl (Y.move rfl) ?_))
        refine L.y rfl (Y.move rfl) ?_
        refine L.y rfl (Y.move rfl) ?_
        refine L.callVJ (fun v D => ∃ (gx14 : Int), v = .int .i64 gx14 ∧ D = Cls w [] [.obj b2 [.func (.func 123) #[] #[pt b1 0]] 32, .obj b1 [u1] 24, .sl v8 4 1 (l9.map B), .sl gv11 3 1 (gl12.map I)] ∧ m67_pool_Best_K5 gl12 x4 gx13 go1 l9 gx14 = some r) rfl en124 rfl rfl Try.func124 rfl rfl rfl ?_ ?_
        ·
         refine W.seq (W.region (L.y rfl (Y.assign rfl) ?_))
         refine L.nil (E.thenN (W.seq (W.region (L.y rfl (Y.assign rfl) ?_))))
         refine L.nil (E.thenN (W.seqJ (fun gs D => ∃ (gx15 : Int), gs = [(6, .int .i64 gx15)] ∧ D = Cls w [] [.obj b2 [.func (.func 123) #[] #[pt b1 0]] 32, .obj b1 [u1] 24, .sl v8 4 1 (l9.map B), .sl gv11 3 1 (gl12.map I)] ∧ m67_pool_Best_K6 gl12 x4 gx13 go1 l9 gx15 = some r) ?_ ?_))
         ·
          refine W.seq (W.region (L.y rfl (Y.move rfl) ?_))
          refine L.y rfl (Y.lenM (g := I) (l := gl12) Try.underlying24 rfl (fun w hw => As.at_ (hw.get (i := 3) rfl))) ?_
          refine L.y rfl (Y.move rfl) ?_
          refine L.nil (E.thenN (W.block (W.loopJ (fun m gs D => ∃ (gx17 : Int) (gx18 : Int), gs = [(0, gv11), (1, .int .i64 gx13), (2, pt b2 0), (6, .int .i64 gx17), (9, .int .i64 (gl12.length : Int)), (10, .int .i64 gx18)] ∧ D = Cls w [] [.obj b2 [.func (.func 123) #[] #[pt b1 0]] 32, .obj b1 [u1] 24, .sl gv11 3 1 (gl12.map I), .sl v8 4 1 (l9.map B)] ∧ m67_pool_Best_L2 gl12 a1 gx13 x4 go1 l9 m gx17 gx18 = some r) ⟨0, 0, rfl, rfl, h⟩ ⟨rfl, rfl, rfl, rfl, rfl, rfl, trivial⟩ (fun _ hw => hw.sel [0, 1, 3, 2] (by decide) rfl) ?_)))
          rintro m _ _ ⟨gx17, gx18, rfl, rfl, h⟩
          rcases m with _ | m
          · rw [m67_pool_Best_L2] at h; cases h
          rw [m67_pool_Best_L2] at h
          generalize hg2 : m67_pool_Best_L2 gl12 a1 gx13 x4 go1 l9 m = go2 at h
          rw [m67_pool_Best_L2B] at h
          refine W.seq (W.region (L.ite h rfl (Y.lss rfl rfl) (fun c18 h => ?_) (fun c18 h => ?_)))
          ·
           refine L.nil (E.thenN (W.seq (W.condT rfl ?_)))
           refine W.skip (E.thenN (W.seq (W.block (W.seq (W.region (L.y rfl (Y.move rfl) ?_))))))
           refine L.y rfl (Y.assign rfl) ?_
           refine L.nil (E.thenN (W.seq (W.drawn2 (k := 15) (stC [] [] (Cls w [] [.obj b2 [.func (.func 123) #[] #[pt b1 0]] 32, .obj b1 [u1] 24, .sl gv11 3 1 (gl12.map I), .sl v8 4 1 (l9.map B)])) rfl mixed (fun _ hw => hw.drew) (Sc.atD (fun _ hw => hw)) ?_)))
           refine V2.y (i := 0) (Nx2.of (Z := Cls w [] [.obj b2 [.func (.func 123) #[] #[pt b1 0]] 32, .obj b1 [u1] 24, .sl gv11 3 1 (gl12.map I), .sl v8 4 1 (l9.map B)]) [] (by kernel_rfl) rfl (Zc.fin (fun _ hw => hw))) rfl rfl rfl (Y.loadP (i := 0) ag32 rfl rfl rfl) ?_
           refine V2.y (i := 1) (Nx2.of (Z := Cls w [] [.obj b2 [.func (.func 123) #[] #[pt b1 0]] 32, .obj b1 [u1] 24, .sl gv11 3 1 (gl12.map I), .sl v8 4 1 (l9.map B)]) [] (by kernel_rfl) rfl (Zc.fin (fun _ hw => hw))) rfl rfl rfl (Y.move rfl) ?_
           refine V2.y (i := 2) (Nx2.of (Z := Cls w [] [.obj b2 [.func (.func 123) #[] #[pt b1 0]] 32, .obj b1 [u1] 24, .sl gv11 3 1 (gl12.map I), .sl v8 4 1 (l9.map B)]) [] (by kernel_rfl) rfl (Zc.fin (fun _ hw => hw))) rfl rfl rfl (Y.move rfl) ?_
           refine V2.m (i := 3) (V' := fun _ => el gv11 (gx18.toNat * 1)) h (Nx2.of (Z := Cls w [] [.obj b2 [.func (.func 123) #[] #[pt b1 0]] 32, .obj b1 [u1] 24, .sl gv11 3 1 (gl12.map I), .sl v8 4 1 (l9.map B)]) [] (by kernel_rfl) rfl (Zc.fin (fun _ hw => hw))) rfl rfl rfl (Y.indexM (g := I) (l := gl12) Try.underlying24 sz3 rfl rfl (fun w hw => As.at_ (hw.get (i := 2) rfl))) (fun x19 ex19 h => ?_)
           refine V2.y (i := 4) (Nx2.of (Z := Cls w [] [.obj b2 [.func (.func 123) #[] #[pt b1 0]] 32, .obj b1 [u1] 24, .sl gv11 3 1 (gl12.map I), .sl v8 4 1 (l9.map B)]) [] (by kernel_rfl) rfl (Zc.fin (fun _ hw => hw))) rfl rfl rfl (Y.loadE1 (u := .int .i64 x19) ag3 rfl (fun w hw => As.at_ (hw.get (i := 2) rfl)) (idx_map ex19)) ?_
           refine V2.y (i := 5) (Nx2.of (Z := Cls w [] [.obj b2 [.func (.func 123) #[] #[pt b1 0]] 32, .obj b1 [u1] 24, .sl gv11 3 1 (gl12.map I), .sl v8 4 1 (l9.map B)]) [] (by kernel_rfl) rfl (Zc.fin (fun _ hw => hw))) rfl rfl rfl (Y.move rfl) ?_
           refine V2.y (i := 7) (Nx2.of (Z := Cls w [] [.obj b2 [.func (.func 123) #[] #[pt b1 0]] 32, .obj b1 [u1] 24, .sl gv11 3 1 (gl12.map I), .sl v8 4 1 (l9.map B)]) [] (by kernel_rfl) rfl (Zc.fin (fun _ hw => hw))) rfl rfl rfl (Y.loadP (i := 0) ag32 rfl rfl rfl) ?_
           refine V2.y (i := 8) (Nx2.of (Z := Cls w [] [.obj b2 [.func (.func 123) #[] #[pt b1 0]] 32, .obj b1 [u1] 24, .sl gv11 3 1 (gl12.map I), .sl v8 4 1 (l9.map B)]) [] (by kernel_rfl) rfl (Zc.fin (fun _ hw => hw))) rfl rfl rfl (Y.move rfl) ?_
           refine V2.y (i := 9) (Nx2.of (Z := Cls w [] [.obj b2 [.func (.func 123) #[] #[pt b1 0]] 32, .obj b1 [u1] 24, .sl gv11 3 1 (gl12.map I), .sl v8 4 1 (l9.map B)]) [] (by kernel_rfl) rfl (Zc.fin (fun _ hw => hw))) rfl rfl rfl (Y.move rfl) ?_
           refine V2.m (i := 10) (V' := fun _ => el gv11 (gx17.toNat * 1)) h (Nx2.of (Z := Cls w [] [.obj b2 [.func (.func 123) #[] #[pt b1 0]] 32, .obj b1 [u1] 24, .sl gv11 3 1 (gl12.map I), .sl v8 4 1 (l9.map B)]) [] (by kernel_rfl) rfl (Zc.fin (fun _ hw => hw))) rfl rfl rfl (Y.indexM (g := I) (l := gl12) Try.underlying24 sz3 rfl rfl (fun w hw => As.at_ (hw.get (i := 2) rfl))) (fun x20 ex20 h => ?_)
           refine V2.y (i := 11) (Nx2.of (Z := Cls w [] [.obj b2 [.func (.func 123) #[] #[pt b1 0]] 32, .obj b1 [u1] 24, .sl gv11 3 1 (gl12.map I), .sl v8 4 1 (l9.map B)]) [] (by kernel_rfl) rfl (Zc.fin (fun _ hw => hw))) rfl rfl rfl (Y.loadE1 (u := .int .i64 x20) ag3 rfl (fun w hw => As.at_ (hw.get (i := 2) rfl)) (idx_map ex20)) ?_
           refine V2.y (i := 12) (Nx2.of (Z := Cls w [] [.obj b2 [.func (.func 123) #[] #[pt b1 0]] 32, .obj b1 [u1] 24, .sl gv11 3 1 (gl12.map I), .sl v8 4 1 (l9.map B)]) [] (by kernel_rfl) rfl (Zc.fin (fun _ hw => hw))) rfl rfl rfl (Y.move rfl) ?_
           refine V2.eff (i := 6) (by kernel_rfl) rfl ?_
           refine L.callVJ (fun v D => ∃ (gx19 : Int), v = .int .i64 gx19 ∧ D = Cls w [] [.obj b2 [.func (.func 123) #[] #[pt b1 0]] 32, .obj b1 [u1] 24, .sl gv11 3 1 (gl12.map I), .sl v8 4 1 (l9.map B)] ∧ m67_pool_Best_K7 a1 gx13 x20 gx18 go2 gx17 gx19 = some r) rfl en123 rfl rfl Try.func123 rfl rfl rfl ?_ ?_
           ·
            refine W.seq (W.region (L.y rfl (Y.assign rfl) ?_))
            refine L.nil (E.thenN (W.seq (W.seq (W.region (L.y rfl (Y.loadP (i := 1) ag24 rfl rfl rfl) ?_)))))
            refine L.y rfl (Y.move rfl) ?_
            refine L.m (V := fun _ => dropv u1 gx13.toNat 1) h rfl (Y.dropM (g := I) Try.underlying24 sz3 rfl rfl (fun w' hw => hA1.cls0 hw)) (fun l29 el29 h => ?_)
            refine L.y rfl (Y.move rfl) ?_
            obtain ⟨x30, e31, h⟩ := bind1S h
            refine L.y rfl (Y.does en121 rfl (fun w' hw => (w121_slices_Index_int l29 x19 (dropv u1 gx13.toNat 1) w' _ e31 ((At.dropM hA1 el29).cls0 hw)).mono (fun _ _ h => h.1))) ?_
            refine L.y rfl (Y.assign rfl) ?_
            refine L.nil (E.thenN (W.seq (W.region (L.y rfl (Y.move rfl) ?_))))
            refine L.ite h rfl (Y.geq rfl rfl) (fun c32 h => ?_) (fun c32 h => ?_)
            ·
             refine L.nil (E.thenN (W.condT rfl ?_))
             refine W.seq (W.region (L.y rfl (Y.move rfl) ?_))
             refine L.y rfl (Y.move rfl) ?_
             refine L.m (V := fun x33 => .int .i64 x33) h rfl (Y.addM rfl rfl) (fun x33 ex33 h => ?_)
             refine L.y rfl (Y.assign rfl) ?_
             refine L.nil (E.thenN (W.ret (E.thenR (E.ret1 rfl rfl (fun w1 hw => ?_)))))
             exact ⟨_, _, rfl, ⟨x33, rfl, rfl, h⟩, hw⟩
            ·
             refine L.nil (E.thenN (W.condF rfl ?_))
             refine W.skip (E.thenN (W.seq (W.region (L.y rfl (Y.loadP (i := 1) ag24 rfl rfl rfl) ?_))))
             refine L.y rfl (Y.lenM (g := I) (l := a1) Try.underlying24 rfl (fun w' hw => hA1.cls0 hw)) ?_
             refine L.y rfl (Y.assign rfl) ?_
             refine L.nil (E.thenN (W.ret (E.ret1 rfl rfl (fun w1 hw => ?_))))
             exact ⟨_, _, rfl, ⟨(a1.length : Int), rfl, rfl, h⟩, hw⟩
           ·
            rintro _ _ ⟨gx19, rfl, rfl, h⟩
            rw [m67_pool_Best_K7] at h
            refine L.nil (E.toV2 (stC [] [] (Cls w [] [.obj b2 [.func (.func 123) #[] #[pt b1 0]] 32, .obj b1 [u1] 24, .sl gv11 3 1 (gl12.map I), .sl v8 4 1 (l9.map B)])) 6 (by kernel_rfl) (Sc.stayD (fun _ hw => hw)) (Sc.atD (fun _ hw => hw)) ?_)
            refine V2.eff (i := 13) (by kernel_rfl) rfl ?_
            refine L.callVJ (fun v D => ∃ (gx20 : Int), v = .int .i64 gx20 ∧ D = Cls w [] [.obj b2 [.func (.func 123) #[] #[pt b1 0]] 32, .obj b1 [u1] 24, .sl gv11 3 1 (gl12.map I), .sl v8 4 1 (l9.map B)] ∧ m67_pool_Best_K8 gx19 gx18 go2 gx17 gx20 = some r) rfl en123 rfl rfl Try.func123 rfl rfl rfl ?_ ?_
            ·
             refine W.seq (W.region (L.y rfl (Y.assign rfl) ?_))
             refine L.nil (E.thenN (W.seq (W.seq (W.region (L.y rfl (Y.loadP (i := 1) ag24 rfl rfl rfl) ?_)))))
             refine L.y rfl (Y.move rfl) ?_
             refine L.m (V := fun _ => dropv u1 gx13.toNat 1) h rfl (Y.dropM (g := I) Try.underlying24 sz3 rfl rfl (fun w' hw => hA1.cls0 hw)) (fun l24 el24 h => ?_)
             refine L.y rfl (Y.move rfl) ?_
             obtain ⟨x25, e26, h⟩ := bind1S h
             refine L.y rfl (Y.does en121 rfl (fun w' hw => (w121_slices_Index_int l24 x20 (dropv u1 gx13.toNat 1) w' _ e26 ((At.dropM hA1 el24).cls0 hw)).mono (fun _ _ h => h.1))) ?_
             refine L.y rfl (Y.assign rfl) ?_
             refine L.nil (E.thenN (W.seq (W.region (L.y rfl (Y.move rfl) ?_))))
             refine L.ite h rfl (Y.geq rfl rfl) (fun c27 h => ?_) (fun c27 h => ?_)
             ·
              refine L.nil (E.thenN (W.condT rfl ?_))
              refine W.seq (W.region (L.y rfl (Y.move rfl) ?_))
              refine L.y rfl (Y.move rfl) ?_
              refine L.m (V := fun x28 => .int .i64 x28) h rfl (Y.addM rfl rfl) (fun x28 ex28 h => ?_)
              refine L.y rfl (Y.assign rfl) ?_
              refine L.nil (E.thenN (W.ret (E.thenR (E.ret1 rfl rfl (fun w1 hw => ?_)))))
              exact ⟨_, _, rfl, ⟨x28, rfl, rfl, h⟩, hw⟩
             ·
              refine L.nil (E.thenN (W.condF rfl ?_))
              refine W.skip (E.thenN (W.seq (W.region (L.y rfl (Y.loadP (i := 1) ag24 rfl rfl rfl) ?_))))
              refine L.y rfl (Y.lenM (g := I) (l := a1) Try.underlying24 rfl (fun w' hw => hA1.cls0 hw)) ?_
              refine L.y rfl (Y.assign rfl) ?_
              refine L.nil (E.thenN (W.ret (E.ret1 rfl rfl (fun w1 hw => ?_))))
              exact ⟨_, _, rfl, ⟨(a1.length : Int), rfl, rfl, h⟩, hw⟩
            ·
             rintro _ _ ⟨gx20, rfl, rfl, h⟩
             rw [m67_pool_Best_K8] at h
             refine L.nil (E.toV2 (stC [] [] (Cls w [] [.obj b2 [.func (.func 123) #[] #[pt b1 0]] 32, .obj b1 [u1] 24, .sl gv11 3 1 (gl12.map I), .sl v8 4 1 (l9.map B)])) 13 (by kernel_rfl) (Sc.stayD (fun _ hw => hw)) (Sc.atD (fun _ hw => hw)) ?_)
             refine V2.ite (i := 14) h (Nx2.of (Z := Cls w [] [.obj b2 [.func (.func 123) #[] #[pt b1 0]] 32, .obj b1 [u1] 24, .sl gv11 3 1 (gl12.map I), .sl v8 4 1 (l9.map B)]) [] (by kernel_rfl) rfl (Zc.fin (fun _ hw => hw))) rfl rfl rfl (Y.gtr rfl rfl) (fun c21 h => ?_) (fun c21 h => ?_)
             ·
              refine V2.done (by kernel_rfl) ?_
              refine E.thenN (W.condT rfl ?_)
              refine W.region (L.y rfl (Y.move rfl) ?_)
              refine L.y rfl (Y.assign rfl) ?_
              refine L.nil (E.blockN (E.thenN (W.region (L.m (V := fun x22 => .int .i64 x22) h rfl (Y.addM rfl rfl) (fun x22 ex22 h => ?_)))))
              refine L.y rfl (Y.move rfl) ?_
              exact L.nil (E.againJ ⟨gx18, x22, rfl, rfl, by rw [hg2]; exact h⟩ (Nat.lt_succ_self _) ⟨rfl, rfl, rfl, rfl, rfl, rfl, trivial⟩ (fun _ hw => hw))
             ·
              refine V2.done (by kernel_rfl) ?_
              refine E.thenN (W.condF rfl ?_)
              refine W.skip (E.blockN (E.thenN (W.region (L.m (V := fun x23 => .int .i64 x23) h rfl (Y.addM rfl rfl) (fun x23 ex23 h => ?_)))))
              refine L.y rfl (Y.move rfl) ?_
              exact L.nil (E.againJ ⟨gx17, x23, rfl, rfl, by rw [hg2]; exact h⟩ (Nat.lt_succ_self _) ⟨rfl, rfl, rfl, rfl, rfl, rfl, trivial⟩ (fun _ hw => hw))
          ·
           refine L.nil (E.thenN (W.seq (W.condF rfl ?_)))
           exact W.exit (E.thenX (E.KLX (E.blockX (E.joinJ ⟨gx17, rfl, rfl, h⟩ ⟨rfl, trivial⟩ (fun _ hw => hw.sel [0, 1, 3, 2] (by decide) rfl)))))
         ·
          rintro _ _ ⟨gx15, rfl, rfl, h⟩
          rw [m67_pool_Best_K6] at h
          refine W.seq (W.region (L.y rfl (Y.move rfl) ?_))
          refine L.y rfl (Y.assign rfl) ?_
          refine L.nil (E.thenN (W.ret (E.ret1 rfl rfl (fun w1 hw => ?_))))
          exact ⟨_, _, rfl, ⟨gx15, rfl, rfl, h⟩, hw⟩
        ·
         rintro _ _ ⟨gx14, rfl, rfl, h⟩
         rw [m67_pool_Best_K5] at h
         refine L.y rfl (Y.assign rfl) ?_
         refine L.nil (E.thenN (W.region (L.y rfl (Y.move rfl) ?_)))
         refine L.y rfl (Y.move rfl) ?_
         refine L.y rfl (Y.move rfl) ?_
         refine L.m (V := fun x11 => .int .i64 x11) h rfl (Y.addM rfl rfl) (fun x11 ex11 h => ?_)
         refine L.delMD (i := 3) (l := gl12) (a := gx14) (b := x11) h wDel rfl en122 rfl rfl rfl rfl ?_
         intro v13 l12 el12 h
         refine L.y rfl (Y.assign rfl) ?_
         refine L.nil (E.thenN (W.region (L.y rfl (Y.move rfl) ?_)))
         refine L.y rfl (Y.move rfl) ?_
         refine L.litOne rfl Try.underlying24 el3 rfl rfl ?_
         intro b14
         refine L.appM (i := 4) (g := I) (l := l12) (more := [x4]) h rfl Try.underlying24 el3 rfl rfl rfl (fun w hw => As.at_ (hw.get (i := 0) rfl)) (plain_ints _) rfl ?_
         intro v15 l16 el16 h
         refine L.y rfl (Y.assign rfl) ?_
         refine L.nil (E.blockN (E.thenN (W.region (L.m (V := fun x17 => .int .i64 x17) h rfl (Y.addM rfl rfl) (fun x17 ex17 h => ?_)))))
         refine L.y rfl (Y.move rfl) ?_
         exact L.nil (E.againJ ⟨v8, l9, v15, l16, x17, rfl, rfl, by rw [hg1]; exact h⟩ (Nat.lt_succ_self _) ⟨rfl, rfl, rfl, rfl, rfl, rfl, rfl, rfl, trivial⟩ (fun _ hw => hw.sel [2, 3, 4, 0] (by decide) rfl))
       ·
        refine L.nil (E.thenN (W.condF rfl ?_))
        refine W.skip (E.thenN (W.region (L.y rfl (Y.move rfl) ?_)))
        refine L.y rfl (Y.move rfl) ?_
        refine L.litOne rfl Try.underlying24 el3 rfl rfl ?_
        intro b34
        refine L.appM (i := 4) (g := I) (l := gl12) (more := [x4]) h rfl Try.underlying24 el3 rfl rfl rfl (fun w hw => As.at_ (hw.get (i := 0) rfl)) (plain_ints _) rfl ?_
        intro v35 l36 el36 h
        refine L.y rfl (Y.assign rfl) ?_
        refine L.nil (E.blockN (E.thenN (W.region (L.m (V := fun x37 => .int .i64 x37) h rfl (Y.addM rfl rfl) (fun x37 ex37 h => ?_)))))
        refine L.y rfl (Y.move rfl) ?_
        exact L.nil (E.againJ ⟨v8, l9, v35, l36, x37, rfl, rfl, by rw [hg1]; exact h⟩ (Nat.lt_succ_self _) ⟨rfl, rfl, rfl, rfl, rfl, rfl, rfl, rfl, trivial⟩ (fun _ hw => hw.sel [2, 3, 4, 0] (by decide) rfl))
     ·
      refine L.nil (E.thenN (W.seq (W.condF rfl ?_)))
      exact W.exit (E.thenX (E.KLX (E.blockX (E.joinJ ⟨gv9, gl10, gv11, gl12, rfl, rfl, h⟩ ⟨rfl, rfl, trivial⟩ (fun _ hw => hw.sel [2, 3] (by decide) rfl)))))
    ·
     rintro _ _ ⟨gv5, gl6, gv7, gl8, rfl, rfl, h⟩
     rw [m67_pool_Best_K3] at h
     refine W.seq (W.region (L.y rfl (Y.move rfl) ?_))
     refine L.y rfl (Y.move rfl) ?_
     refine L.y rfl (Y.assign rfl) ?_
     refine L.y rfl (Y.assign rfl) ?_
     refine L.nil (E.thenN (W.ret (E.ret2 rfl rfl rfl (fun w1 hw => ?_))))
     exact ⟨_, _, rfl, ⟨gv5, gl6, gv7, gl8, rfl, rfl, h⟩, hw⟩
   ·
    rintro _ _ ⟨gv1, gl2, gv3, gl4, rfl, rfl, h⟩
    rw [m67_pool_Best_K2] at h
    refine L.y rfl (Y.move rfl) ?_
    refine L.y rfl (Y.extract rfl rfl) ?_
    refine L.y rfl (Y.extract rfl rfl) ?_
    refine L.y rfl (Y.assign rfl) ?_
    refine L.y rfl (Y.assign rfl) ?_
    refine L.nil (E.thenN (W.seq (W.region (L.y rfl (Y.move rfl) ?_))))
    refine L.y rfl (Y.move rfl) ?_
    refine L.y rfl (Y.assign rfl) ?_
    refine L.y rfl (Y.assign rfl) ?_
    refine L.y rfl (Y.assign rfl) ?_
    refine L.nil (E.thenN (W.ret (E.ret3 rfl rfl rfl rfl (fun w1 hw => ?_))))
    obtain rfl := Option.some.inj h
    exact ⟨_, _, rfl, ⟨_, _, rfl, rfl⟩, hw⟩
set_option maxRecDepth 100000 in
set_option maxHeartbeats 8000000 in
theorem w68_pool_Clock (a0 : Int) (a1 : (List Int)) (u1 : Value) (w : World) (r : ((List Bool) × (List Int) × Int)) (h : m68_pool_Clock a0 a1 = some r) (hA1 : At w u1 1 (a1.map I)) : Does Try.prog 68 [.int .i64 a0, u1] w fun u m => ∃ v0 v1, u = .tuple #[v0, v1, .int .i64 r.2.2] ∧ m = [.sl v0 4 1 (r.1.map B), .sl v1 3 1 (r.2.1.map I)] := by
  rw [m68_pool_Clock] at h
  refine body (n := 78) Try.func68 rfl rfl rfl (Cls.refl w) ?_
  refine W.seq (W.region (L.y rfl (Y.assign rfl) ?_))
  refine L.y rfl (Y.assign rfl) ?_
  refine L.y rfl (Y.assign rfl) ?_
  refine L.nil (E.thenN (W.seqJ (fun gs D => gs = [(0, .int .i64 a0), (1, u1)] ∧ D = Cls w [] [] ∧ m68_pool_Clock_K1 a1 a0 = some r) ?_ ?_))
  ·
   refine W.seq (W.region (L.y rfl (Y.move rfl) ?_))
   refine L.y rfl (Y.move rfl) ?_
   obtain ⟨x31, e32, h⟩ := bind1S h
   refine L.y rfl (Y.does en64 rfl (fun w' hw => (w64_pool_Check a0 a1 u1 w' _ e32 (hA1.cls0 hw)).mono (fun _ _ h => h.1))) ?_
   refine L.y rfl (Y.assign rfl) ?_
   refine L.nil (E.thenN (W.seq (W.region (L.y rfl (Y.move rfl) ?_))))
   refine L.ite h rfl (Y.neq rfl rfl) (fun c33 h => ?_) (fun c33 h => ?_)
   ·
    refine L.nil (E.thenN (W.condT rfl ?_))
    refine W.seq (W.region (L.y rfl (Y.move rfl) ?_))
    refine L.y rfl (Y.assign rfl) ?_
    refine L.y rfl (Y.assign rfl) ?_
    refine L.y rfl (Y.assign rfl) ?_
    refine L.nil (E.thenN (W.ret (E.KSR (E.ret3 rfl rfl rfl rfl (fun w1 hw => ?_)))))
    obtain rfl := Option.some.inj h
    exact ⟨_, _, rfl, ⟨_, _, rfl, rfl⟩, ((hw.nilSl 4 1).nilSl 3 1).sel [1, 0] (by decide) rfl⟩
   ·
    refine L.nil (E.thenN (W.condF rfl ?_))
    exact W.skip (E.joinJ ⟨rfl, rfl, h⟩ ⟨rfl, rfl, trivial⟩ (fun _ hw => hw))
  ·
   rintro _ _ ⟨rfl, rfl, h⟩
   rw [m68_pool_Clock_K1] at h
   refine W.seq (W.region (L.y rfl (Y.assign rfl) ?_))
   refine L.nil (E.thenN (W.seq (W.region (L.y rfl (Y.assign rfl) ?_))))
   refine L.nil (E.thenN (W.seq (W.region (L.y rfl (Y.assign rfl) ?_))))
   refine L.nil (E.thenN (W.seq (W.region (L.y rfl (Y.assign rfl) ?_))))
   refine L.nil (E.thenN (W.seqJ (fun gs D => ∃ (gv1 : Value) (gl2 : (List Bool)) (gv3 : Value) (gl4 : (List Int)), gs = [(8, gv1), (9, gv3)] ∧ D = Cls w [] [.sl gv1 4 1 (gl2.map B), .sl gv3 3 1 (gl4.map I)] ∧ m68_pool_Clock_K2 gl2 gl4 = some r) ?_ ?_))
   ·
    refine W.seq (W.region (L.y rfl (Y.move rfl) ?_))
    refine L.y rfl (Y.lenM (g := I) (l := a1) Try.underlying24 rfl (fun w' hw => hA1.cls0 hw)) ?_
    refine L.y rfl (Y.move rfl) ?_
    refine L.nil (E.thenN (W.block (W.nilSl 4 1 ?_)))
    refine W.nilSl 3 1 ?_
    refine W.nilSl 4 1 ?_
    refine W.loopJ (fun m gs D => ∃ (gv12 : Value) (gl13 : (List Bool)) (gv14 : Value) (gl15 : (List Int)) (gv16 : Value) (gl17 : (List Bool)) (gx18 : Int) (gx19 : Int), gs = [(0, .int .i64 a0), (8, gv12), (9, gv14), (10, gv16), (11, .int .i64 gx18), (21, u1), (22, .int .i64 (a1.length : Int)), (23, .int .i64 gx19)] ∧ D = Cls w [] [.sl gv12 4 1 (gl13.map B), .sl gv14 3 1 (gl15.map I), .sl gv16 4 1 (gl17.map B)] ∧ m68_pool_Clock_L1 a1 a0 m gl13 gl15 gl17 gx18 gx19 = some r) ⟨.slice none 0 0, [], .slice none 0 0, [], .slice none 0 0, [], 0, 0, rfl, rfl, h⟩ ⟨rfl, rfl, rfl, rfl, rfl, rfl, rfl, rfl, trivial⟩ (fun _ hw => hw.sel [2, 1, 0] (by decide) rfl) ?_
    rintro m _ _ ⟨gv12, gl13, gv14, gl15, gv16, gl17, gx18, gx19, rfl, rfl, h⟩
    rcases m with _ | m
    · rw [m68_pool_Clock_L1] at h; cases h
    rw [m68_pool_Clock_L1] at h
    generalize hg1 : m68_pool_Clock_L1 a1 a0 m = go1 at h
    rw [m68_pool_Clock_L1B] at h
    refine W.seq (W.region (L.ite h rfl (Y.lss rfl rfl) (fun c1 h => ?_) (fun c1 h => ?_)))
    ·
     refine L.nil (E.thenN (W.seq (W.condT rfl ?_)))
     refine W.skip (E.thenN (W.seqJ (fun gs D => ∃ (gv20 : Value) (gl21 : (List Bool)) (gv22 : Value) (gl23 : (List Int)) (gv24 : Value) (gl25 : (List Bool)) (gx26 : Int), gs = [(0, .int .i64 a0), (8, gv20), (9, gv22), (10, gv24), (11, .int .i64 gx26), (21, u1), (22, .int .i64 (a1.length : Int)), (23, .int .i64 gx19)] ∧ D = Cls w [] [.sl gv20 4 1 (gl21.map B), .sl gv22 3 1 (gl23.map I), .sl gv24 4 1 (gl25.map B)] ∧ m68_pool_Clock_K3 gx19 go1 gl21 gl23 gl25 gx26 = some r) ?_ ?_))
     ·
      refine W.block (W.seq (W.region (L.m (V := fun _ => el u1 (gx19.toNat * 1)) h rfl (Y.indexM (g := I) (l := a1) Try.underlying24 sz3 rfl rfl (fun w' hw => hA1.cls0 hw)) (fun x3 ex3 h => ?_))))
      refine L.y rfl (Y.loadE1 (u := .int .i64 x3) ag3 rfl (fun w' hw => hA1.cls0 hw) (idx_map ex3)) ?_
      refine L.y rfl (Y.assign rfl) ?_
      refine L.nil (E.thenN (W.seq (W.region (L.y rfl (Y.move rfl) ?_))))
      refine L.y rfl (Y.move rfl) ?_
      obtain ⟨x4, e5, h⟩ := bind1S h
      refine L.y rfl (Y.does en121 rfl (fun w' hw => (w121_slices_Index_int gl15 x3 gv14 w' _ e5 (As.at_ (hw.get (i := 1) rfl))).mono (fun _ _ h => h.1))) ?_
      refine L.y rfl (Y.assign rfl) ?_
      refine L.nil (E.thenN (W.seq (W.region (L.y rfl (Y.move rfl) ?_))))
      refine L.y rfl (Y.move rfl) ?_
      refine L.y rfl (Y.geq rfl rfl) ?_
      refine L.litOne rfl Try.underlying54 el4 rfl rfl ?_
      intro b6
      refine L.appM (i := 1) (g := B) (l := gl13) (more := [decide (0 ≤ x4)]) h rfl Try.underlying54 el4 rfl rfl rfl (fun w hw => As.at_ (hw.get (i := 0) rfl)) (plain_bools _) rfl ?_
      intro v7 l8 el8 h
      refine L.y rfl (Y.assign rfl) ?_
      refine L.nil (E.thenN (W.seqJ (fun gs D => gs = [(0, .int .i64 a0), (8, v7), (9, gv14), (10, gv16), (11, .int .i64 gx18), (13, .int .i64 x3), (21, u1), (22, .int .i64 (a1.length : Int)), (23, .int .i64 gx19)] ∧ D = Cls w [] [.sl v7 4 1 (l8.map B), .sl gv14 3 1 (gl15.map I), .sl gv16 4 1 (gl17.map B)] ∧ m68_pool_Clock_K4 a0 gl15 x3 gx19 go1 l8 gl17 gx18 = some r) ?_ ?_))
      ·
       refine W.block (W.seq (W.region (L.y rfl (Y.move rfl) ?_)))
       refine L.ite h rfl (Y.geq rfl rfl) (fun c21 h => ?_) (fun c21 h => ?_)
       ·
        refine L.y rfl (Y.assign rfl) ?_
        refine L.nil (E.thenN (W.condT rfl ?_))
        refine W.seq (W.region (L.y rfl (Y.move rfl) ?_))
        refine L.y rfl (Y.move rfl) ?_
        refine L.m (V := fun _ => el gv16 (x4.toNat * 1)) h rfl (Y.indexM (g := B) (l := gl17) Try.underlying54 sz4 rfl rfl (fun w hw => As.at_ (hw.get (i := 3) rfl))) (fun x22 ex22 h => ?_)
        refine L.storeSlM (q := 3) (row := B) (vs := [.bool true]) (j := 0) (u1 := true) h sz4 rfl rfl rfl rfl rfl (all1 rfl all0) rfl ex22 rfl rfl ?_
        intro l23 el23 h
        exact L.nil (E.thenN (W.exit (E.blockY rfl (E.KSX (E.blockX (E.joinJ ⟨v7, l8, gv14, gl15, gv16, l23, gx18, rfl, rfl, h⟩ ⟨rfl, rfl, rfl, rfl, rfl, rfl, rfl, rfl, trivial⟩ (fun _ hw => hw.sel [0, 2, 3] (by decide) rfl)))))))
       ·
        refine L.y rfl (Y.assign rfl) ?_
        refine L.nil (E.thenN (W.condF rfl ?_))
        refine W.seq (W.region (L.y rfl (Y.move rfl) ?_))
        refine L.y rfl (Y.lenM (g := I) (l := gl15) Try.underlying24 rfl (fun w hw => As.at_ (hw.get (i := 2) rfl))) ?_
        refine L.y rfl (Y.move rfl) ?_
        refine L.ite h rfl (Y.lss rfl rfl) (fun c24 h => ?_) (fun c24 h => ?_)
        ·
         refine L.y rfl (Y.assign rfl) ?_
         refine L.nil (E.thenN (W.condT rfl ?_))
         refine W.seq (W.region (L.y rfl (Y.move rfl) ?_))
         refine L.y rfl (Y.move rfl) ?_
         refine L.litOne rfl Try.underlying24 el3 rfl rfl ?_
         intro b25
         refine L.appM (i := 3) (g := I) (l := gl15) (more := [x3]) h rfl Try.underlying24 el3 rfl rfl rfl (fun w hw => As.at_ (hw.get (i := 0) rfl)) (plain_ints _) rfl ?_
         intro v26 l27 el27 h
         refine L.y rfl (Y.move rfl) ?_
         refine L.litOne rfl Try.underlying54 el4 rfl rfl ?_
         intro b28
         refine L.appM (i := 5) (g := B) (l := gl17) (more := [true]) h rfl Try.underlying54 el4 rfl rfl rfl (fun w hw => As.at_ (hw.get (i := 0) rfl)) (plain_bools _) rfl ?_
         intro v29 l30 el30 h
         refine L.y rfl (Y.assign rfl) ?_
         refine L.y rfl (Y.assign rfl) ?_
         exact L.nil (E.thenN (W.exit (E.blockY rfl (E.KSX (E.blockX (E.joinJ ⟨v7, l8, v26, l27, v29, l30, gx18, rfl, rfl, h⟩ ⟨rfl, rfl, rfl, rfl, rfl, rfl, rfl, rfl, trivial⟩ (fun _ hw => hw.sel [4, 2, 0] (by decide) rfl)))))))
        ·
         refine L.y rfl (Y.assign rfl) ?_
         refine L.nil (E.thenN (W.condF rfl ?_))
         exact W.skip (E.blockN (E.joinJ ⟨rfl, rfl, h⟩ ⟨rfl, rfl, rfl, rfl, rfl, rfl, rfl, rfl, rfl, trivial⟩ (fun _ hw => hw.sel [0, 2, 3] (by decide) rfl)))
      ·
       rintro _ _ ⟨rfl, rfl, h⟩
       rw [m68_pool_Clock_K4] at h
       refine W.seqJ (fun gs D => ∃ (gl27 : (List Bool)) (gx28 : Int), gs = [(0, .int .i64 a0), (8, v7), (9, gv14), (10, gv16), (11, .int .i64 gx28), (13, .int .i64 x3), (21, u1), (22, .int .i64 (a1.length : Int)), (23, .int .i64 gx19)] ∧ D = Cls w [] [.sl v7 4 1 (l8.map B), .sl gv14 3 1 (gl15.map I), .sl gv16 4 1 (gl27.map B)] ∧ m68_pool_Clock_K5 gl15 x3 a0 gx19 go1 l8 gl27 gx28 = some r) ?_ ?_
       ·
        refine W.block (W.loopJ (fun m gs D => ∃ (gl29 : (List Bool)) (gx30 : Int), gs = [(0, .int .i64 a0), (8, v7), (9, gv14), (10, gv16), (11, .int .i64 gx30), (13, .int .i64 x3), (21, u1), (22, .int .i64 (a1.length : Int)), (23, .int .i64 gx19)] ∧ D = Cls w [] [.sl v7 4 1 (l8.map B), .sl gv14 3 1 (gl15.map I), .sl gv16 4 1 (gl29.map B)] ∧ m68_pool_Clock_L2 a0 gl15 x3 gx19 go1 l8 m gl29 gx30 = some r) ⟨gl17, gx18, rfl, rfl, h⟩ ⟨rfl, rfl, rfl, rfl, rfl, rfl, rfl, rfl, rfl, trivial⟩ (fun _ hw => hw) ?_)
        rintro m _ _ ⟨gl29, gx30, rfl, rfl, h⟩
        rcases m with _ | m
        · rw [m68_pool_Clock_L2] at h; cases h
        rw [m68_pool_Clock_L2] at h
        generalize hg2 : m68_pool_Clock_L2 a0 gl15 x3 gx19 go1 l8 m = go2 at h
        rw [m68_pool_Clock_L2B] at h
        refine W.seq (W.seq (W.region (L.y rfl (Y.move rfl) ?_)))
        refine L.y rfl (Y.move rfl) ?_
        refine L.m (V := fun _ => el gv16 (gx30.toNat * 1)) h rfl (Y.indexM (g := B) (l := gl29) Try.underlying54 sz4 rfl rfl (fun w hw => As.at_ (hw.get (i := 2) rfl))) (fun x15 ex15 h => ?_)
        refine L.iteB h rfl (Y.loadE1 (u := .bool x15) ag4 rfl (fun w hw => As.at_ (hw.get (i := 2) rfl)) (idx_map ex15)) (fun c16 h => ?_) (fun c16 h => ?_)
        ·
         refine L.nil (E.thenN (W.condT rfl ?_))
         refine W.skip (E.thenN (W.block (W.seq (W.region (L.y rfl (Y.move rfl) ?_)))))
         refine L.y rfl (Y.move rfl) ?_
         refine L.m (V := fun _ => el gv16 (gx30.toNat * 1)) h rfl (Y.indexM (g := B) (l := gl29) Try.underlying54 sz4 rfl rfl (fun w hw => As.at_ (hw.get (i := 2) rfl))) (fun x17 ex17 h => ?_)
         refine L.storeSlM (q := 2) (row := B) (vs := [.bool false]) (j := 0) (u1 := false) h sz4 rfl rfl rfl rfl rfl (all1 rfl all0) rfl ex17 rfl rfl ?_
         intro l18 el18 h
         refine L.nil (E.thenN (W.region (L.y rfl (Y.move rfl) ?_)))
         refine L.m (V := fun x19 => .int .i64 x19) h rfl (Y.addM rfl rfl) (fun x19 ex19 h => ?_)
         refine L.y rfl (Y.move rfl) ?_
         refine L.m (V := fun x20 => .int .i64 x20) h rfl (Y.remM rfl rfl) (fun x20 ex20 h => ?_)
         refine L.y rfl (Y.assign rfl) ?_
         exact L.nil (E.blockN (E.againJ ⟨l18, x20, rfl, rfl, by rw [hg2]; exact h⟩ (Nat.lt_succ_self _) ⟨rfl, rfl, rfl, rfl, rfl, rfl, rfl, rfl, rfl, trivial⟩ (fun _ hw => hw)))
        ·
         refine L.nil (E.thenN (W.condF rfl ?_))
         exact W.exit (E.thenX (E.KLX (E.blockX (E.joinJ ⟨gl29, gx30, rfl, rfl, h⟩ ⟨rfl, rfl, rfl, rfl, rfl, rfl, rfl, rfl, rfl, trivial⟩ (fun _ hw => hw)))))
       ·
        rintro _ _ ⟨gl27, gx28, rfl, rfl, h⟩
        rw [m68_pool_Clock_K5] at h
        refine W.seq (W.region (L.y rfl (Y.move rfl) ?_))
        refine L.y rfl (Y.move rfl) ?_
        refine L.y rfl (Y.move rfl) ?_
        refine L.y rfl (Y.move rfl) ?_
        refine L.y rfl (Y.move rfl) ?_
        refine L.m (V := fun _ => el gv14 (gx28.toNat * 1)) h rfl (Y.indexM (g := I) (l := gl15) Try.underlying24 sz3 rfl rfl (fun w hw => As.at_ (hw.get (i := 1) rfl))) (fun x9 ex9 h => ?_)
        refine L.storeSlM (q := 1) (row := I) (vs := [.int .i64 x3]) (j := 0) (u1 := x3) h sz3 rfl rfl rfl rfl rfl (all1 rfl all0) rfl ex9 rfl rfl ?_
        intro l10 el10 h
        refine L.m (V := fun _ => el gv16 (gx28.toNat * 1)) h rfl (Y.indexM (g := B) (l := gl27) Try.underlying54 sz4 rfl rfl (fun w hw => As.at_ (hw.get (i := 2) rfl))) (fun x11 ex11 h => ?_)
        refine L.storeSlM (q := 2) (row := B) (vs := [.bool true]) (j := 0) (u1 := true) h sz4 rfl rfl rfl rfl rfl (all1 rfl all0) rfl ex11 rfl rfl ?_
        intro l12 el12 h
        refine L.nil (E.thenN (W.region (L.y rfl (Y.move rfl) ?_)))
        refine L.m (V := fun x13 => .int .i64 x13) h rfl (Y.addM rfl rfl) (fun x13 ex13 h => ?_)
        refine L.y rfl (Y.move rfl) ?_
        refine L.m (V := fun x14 => .int .i64 x14) h rfl (Y.remM rfl rfl) (fun x14 ex14 h => ?_)
        refine L.y rfl (Y.assign rfl) ?_
        exact L.nil (E.blockN (E.joinJ ⟨v7, l8, gv14, l10, gv16, l12, x14, rfl, rfl, h⟩ ⟨rfl, rfl, rfl, rfl, rfl, rfl, rfl, rfl, trivial⟩ (fun _ hw => hw)))
     ·
      rintro _ _ ⟨gv20, gl21, gv22, gl23, gv24, gl25, gx26, rfl, rfl, h⟩
      rw [m68_pool_Clock_K3] at h
      refine W.region (L.m (V := fun x2 => .int .i64 x2) h rfl (Y.addM rfl rfl) (fun x2 ex2 h => ?_))
      refine L.y rfl (Y.move rfl) ?_
      exact L.nil (E.againJ ⟨gv20, gl21, gv22, gl23, gv24, gl25, gx26, x2, rfl, rfl, by rw [hg1]; exact h⟩ (Nat.lt_succ_self _) ⟨rfl, rfl, rfl, rfl, rfl, rfl, rfl, rfl, trivial⟩ (fun _ hw => hw))
    ·
     refine L.nil (E.thenN (W.seq (W.condF rfl ?_)))
     exact W.exit (E.thenX (E.KLX (E.blockX (E.joinJ ⟨gv12, gl13, gv14, gl15, rfl, rfl, h⟩ ⟨rfl, rfl, trivial⟩ (fun _ hw => hw.sel [0, 1] (by decide) rfl)))))
   ·
    rintro _ _ ⟨gv1, gl2, gv3, gl4, rfl, rfl, h⟩
    rw [m68_pool_Clock_K2] at h
    refine W.seq (W.region (L.y rfl (Y.move rfl) ?_))
    refine L.y rfl (Y.move rfl) ?_
    refine L.y rfl (Y.assign rfl) ?_
    refine L.y rfl (Y.assign rfl) ?_
    refine L.y rfl (Y.assign rfl) ?_
    refine L.nil (E.thenN (W.ret (E.ret3 rfl rfl rfl rfl (fun w1 hw => ?_))))
    obtain rfl := Option.some.inj h
    exact ⟨_, _, rfl, ⟨_, _, rfl, rfl⟩, hw⟩
set_option maxRecDepth 100000 in
set_option maxHeartbeats 8000000 in
theorem w69_quirref_Clock (a0 : Int) (a1 : (List Int)) (u1 : Value) (w : World) (r : ((List Bool) × (List Int))) (h : m69_quirref_Clock a0 a1 = some r) (hA1 : At w u1 1 (a1.map I)) : Does Try.prog 69 [.int .i64 a0, u1] w fun u m => ∃ v0 v1, u = .tuple #[v0, v1] ∧ m = [.sl v0 4 1 (r.1.map B), .sl v1 3 1 (r.2.map I)] := by
  rw [m69_quirref_Clock] at h
  refine body (n := 94) Try.func69 rfl rfl rfl (Cls.refl w) ?_
  refine W.seq (W.region (L.y rfl (Y.assign rfl) ?_))
  refine L.y rfl (Y.assign rfl) ?_
  refine L.nil (E.thenN (W.seq (W.region (L.y rfl (Y.assign rfl) ?_))))
  refine L.nil (E.thenN (W.seq (W.region (L.y rfl (Y.assign rfl) ?_))))
  refine L.nil (E.thenN (W.seq (W.region (L.y rfl (Y.assign rfl) ?_))))
  refine L.nil (E.thenN (W.seqJ (fun gs D => ∃ (gv1 : Value) (gl2 : (List TframeOf)) (gq3 : Nat → Nat) (gv4 : Value) (gl5 : (List Bool)), gs = [(6, gv1), (7, gv4)] ∧ D = Cls w [] [.sl gv1 183 1 (zp gq3 gl2), .os (zo TframeOf.row 185 gq3 gl2), .sl gv4 4 1 (gl5.map B)] ∧ m69_quirref_Clock_K1 gl2 gl5 = some r) ?_ ?_))
  ·
   refine W.seq (W.region (L.y rfl (Y.move rfl) ?_))
   refine L.y rfl (Y.lenM (g := I) (l := a1) Try.underlying24 rfl (fun w' hw => hA1.cls0 hw)) ?_
   refine L.y rfl (Y.move rfl) ?_
   refine L.nil (E.thenN (W.block (W.nilPp 183 185 TframeOf.row (fun _ => 0) ?_)))
   refine W.nilSl 4 1 ?_
   refine W.loopJ (fun m gs D => ∃ (gv17 : Value) (gl18 : (List TframeOf)) (gq19 : Nat → Nat) (gv20 : Value) (gl21 : (List Bool)) (gx22 : Int) (gx23 : Int), gs = [(0, .int .i64 a0), (6, gv17), (7, gv20), (8, .int .i64 gx22), (15, u1), (16, .int .i64 (a1.length : Int)), (17, .int .i64 gx23)] ∧ D = Cls w [] [.sl gv17 183 1 (zp gq19 gl18), .os (zo TframeOf.row 185 gq19 gl18), .sl gv20 4 1 (gl21.map B)] ∧ m69_quirref_Clock_L2 a1 a0 m gl18 gl21 gx22 gx23 = some r) ⟨.slice none 0 0, [], (fun _ => 0), .slice none 0 0, [], 0, 0, rfl, rfl, h⟩ ⟨rfl, rfl, rfl, rfl, rfl, rfl, rfl, trivial⟩ (fun _ hw => hw.sel [1, 2, 0] (by decide) rfl) ?_
   rintro m _ _ ⟨gv17, gl18, gq19, gv20, gl21, gx22, gx23, rfl, rfl, h⟩
   rcases m with _ | m
   · rw [m69_quirref_Clock_L2] at h; cases h
   rw [m69_quirref_Clock_L2] at h
   generalize hg2 : m69_quirref_Clock_L2 a1 a0 m = go2 at h
   rw [m69_quirref_Clock_L2B] at h
   refine W.seq (W.region (L.ite h rfl (Y.lss rfl rfl) (fun c7 h => ?_) (fun c7 h => ?_)))
   ·
    refine L.nil (E.thenN (W.seq (W.condT rfl ?_)))
    refine W.skip (E.thenN (W.seqJ (fun gs D => ∃ (gv24 : Value) (gl25 : (List TframeOf)) (gq26 : Nat → Nat) (gv27 : Value) (gl28 : (List Bool)) (gx29 : Int), gs = [(0, .int .i64 a0), (6, gv24), (7, gv27), (8, .int .i64 gx29), (15, u1), (16, .int .i64 (a1.length : Int)), (17, .int .i64 gx23)] ∧ D = Cls w [] [.sl gv24 183 1 (zp gq26 gl25), .os (zo TframeOf.row 185 gq26 gl25), .sl gv27 4 1 (gl28.map B)] ∧ m69_quirref_Clock_K3 gx23 go2 gl25 gl28 gx29 = some r) ?_ ?_))
    ·
     refine W.block (W.seq (W.region (L.m (V := fun _ => el u1 (gx23.toNat * 1)) h rfl (Y.indexM (g := I) (l := a1) Try.underlying24 sz3 rfl rfl (fun w' hw => hA1.cls0 hw)) (fun x9 ex9 h => ?_))))
     refine L.y rfl (Y.loadE1 (u := .int .i64 x9) ag3 rfl (fun w' hw => hA1.cls0 hw) (idx_map ex9)) ?_
     refine L.alloc rfl ze3 ?_
     intro b10
     refine L.store (i := 0) (vs := [.int .i64 x9]) sz3 rfl rfl rfl rfl (by simp [Value.oneCell', Value.cells, st, pt]) rfl (Nat.le_of_ble_eq_true rfl) ?_
     refine L.nil (E.thenN (W.seq (W.region (L.y rfl (Y.move rfl) ?_))))
     refine L.y rfl (Y.func rfl) ?_
     refine L.callJ (fun v D => ∃ (gx30 : Int), v = .int .i64 gx30 ∧ D = Cls w [] [.obj b10 [.int .i64 x9] 3, .sl gv17 183 1 (zp gq19 gl18), .os (zo TframeOf.row 185 gq19 gl18), .sl gv20 4 1 (gl21.map B)] ∧ m69_quirref_Clock_K4 gl21 gl18 gx23 go2 gx22 a0 x9 gx30 = some r) rfl en125 rfl Try.func125 rfl rfl rfl ?_ ?_
     ·
      refine W.seq (W.region (L.y rfl (Y.assign rfl) ?_))
      refine L.nil (E.thenN (W.seqJ (fun gs D => gs = [] ∧ D = Cls w [] [.obj b10 [.int .i64 x9] 3, .sl gv17 183 1 (zp gq19 gl18), .os (zo TframeOf.row 185 gq19 gl18), .sl gv20 4 1 (gl21.map B)] ∧ m69_quirref_Clock_K8 gl21 gl18 gx23 go2 gx22 a0 x9 = some r) ?_ ?_))
      ·
       refine W.seq (W.region (L.y rfl (Y.move rfl) ?_))
       refine L.y rfl (Y.lenPp (q := 1) (g := gq19) (l := gl18) Try.underlying181 rfl rfl) ?_
       refine L.y rfl (Y.move rfl) ?_
       refine L.nil (E.thenN (W.block (W.loopJ (fun m gs D => ∃ (gx35 : Int), gs = [(0, gv17), (1, .func (.func 126) #[] #[pt b10 0]), (7, .int .i64 (gl18.length : Int)), (8, .int .i64 gx35)] ∧ D = Cls w [] [.obj b10 [.int .i64 x9] 3, .sl gv17 183 1 (zp gq19 gl18), .os (zo TframeOf.row 185 gq19 gl18), .sl gv20 4 1 (gl21.map B)] ∧ m69_quirref_Clock_L4 gl18 x9 gl21 gx23 go2 gx22 a0 m gx35 = some r) ⟨0, rfl, rfl, h⟩ ⟨rfl, rfl, rfl, rfl, trivial⟩ (fun _ hw => hw) ?_)))
       rintro m _ _ ⟨gx35, rfl, rfl, h⟩
       rcases m with _ | m
       · rw [m69_quirref_Clock_L4] at h; cases h
       rw [m69_quirref_Clock_L4] at h
       generalize hg4 : m69_quirref_Clock_L4 gl18 x9 gl21 gx23 go2 gx22 a0 m = go4 at h
       rw [m69_quirref_Clock_L4B] at h
       refine W.seq (W.region (L.ite h rfl (Y.lss rfl rfl) (fun c40 h => ?_) (fun c40 h => ?_)))
       ·
        refine L.nil (E.thenN (W.seq (W.condT rfl ?_)))
        refine W.skip (E.thenN (W.seq (W.block (W.seq (W.region (L.y rfl (Y.move rfl) ?_))))))
        refine L.y rfl (Y.assign rfl) ?_
        refine L.nil (E.thenN (W.seq (W.region (L.y rfl (Y.move rfl) ?_))))
        refine L.y rfl (Y.move rfl) ?_
        refine L.y rfl (Y.move rfl) ?_
        obtain ⟨x41, ex41, h⟩ := bind1S h
        refine L.y rfl (Y.indexPp (q := 1) (g := gq19) (l := gl18) Try.underlying181 sz183 rfl rfl rfl x41 ex41) ?_
        refine L.y rfl (Y.loadPp (q := 1) (g := gq19) (l := gl18) (a := gx35) ag183 rfl rfl ex41) ?_
        refine L.callVJ (fun v D => v = .bool (decide (x41.page_ = x9)) ∧ D = Cls w [] [.obj b10 [.int .i64 x9] 3, .sl gv17 183 1 (zp gq19 gl18), .os (zo TframeOf.row 185 gq19 gl18), .sl gv20 4 1 (gl21.map B)] ∧ m69_quirref_Clock_K9 x41 x9 gl21 gl18 gx23 go2 gx22 a0 gx35 go4 = some r) rfl en126 rfl rfl Try.func126 rfl rfl rfl ?_ ?_
        ·
         refine W.seq (W.region (L.y rfl (Y.assign rfl) ?_))
         refine L.nil (E.thenN (W.seq (W.quietC mixed (by kernel_rfl) (fun _ hw => hw.drew) (fun hC => ?_))))
         refine U.y rfl (Y.move rfl) ?_
         refine U.y rfl (Y.nilCheck rfl) ?_
         refine U.y rfl (Y.fieldP fd185_0 rfl) ?_
         refine U.y rfl (Y.loadPo (q := 2) (row := TframeOf.row) (g := gq19) (l := gl18) (a := gx35) (j := 0) (pv := .int .i64 x41.page_) ag3 rfl rfl ex41 rfl) ?_
         refine U.y rfl (Y.loadP (i := 0) ag3 rfl rfl rfl) ?_
         refine U.y rfl (Y.eql rfl rfl) ?_
         refine U.y rfl (Y.assign rfl) ?_
         refine U.nil (E.thenN (W.ret (E.ret1 rfl rfl (fun w1 hw => ?_))))
         exact ⟨_, _, rfl, ⟨rfl, rfl, h⟩, hw⟩
        ·
         rintro _ _ ⟨rfl, rfl, h⟩
         rw [m69_quirref_Clock_K9] at h
         refine L.nil (E.thenN (W.caseB (q := 16) h rfl (fun h => ?_) (fun h => ?_)))
         ·
          refine W.condT rfl ?_
          refine W.seq (W.region (L.y rfl (Y.move rfl) ?_))
          refine L.y rfl (Y.assign rfl) ?_
          refine L.nil (E.thenN (W.ret (E.blockR (E.thenR (E.KLR (E.blockR (E.KSR (E.ret1 rfl rfl (fun w1 hw => ?_)))))))))
          exact ⟨_, _, rfl, ⟨gx35, rfl, rfl, h⟩, hw⟩
         ·
          refine W.condF rfl ?_
          refine W.skip (E.blockN (E.thenN (W.region (L.m (V := fun x42 => .int .i64 x42) h rfl (Y.addM rfl rfl) (fun x42 ex42 h => ?_)))))
          refine L.y rfl (Y.move rfl) ?_
          exact L.nil (E.againJ ⟨x42, rfl, rfl, by rw [hg4]; exact h⟩ (Nat.lt_succ_self _) ⟨rfl, rfl, rfl, rfl, trivial⟩ (fun _ hw => hw))
       ·
        refine L.nil (E.thenN (W.seq (W.condF rfl ?_)))
        exact W.exit (E.thenX (E.KLX (E.blockX (E.joinJ ⟨rfl, rfl, h⟩ trivial (fun _ hw => hw)))))
      ·
       rintro _ _ ⟨rfl, rfl, h⟩
       rw [m69_quirref_Clock_K8] at h
       refine W.seq (W.region (L.y rfl (Y.assign rfl) ?_))
       refine L.nil (E.thenN (W.ret (E.ret1 rfl rfl (fun w1 hw => ?_))))
       exact ⟨_, _, rfl, ⟨(-1), rfl, rfl, h⟩, hw⟩
     ·
      rintro _ _ ⟨gx30, rfl, rfl, h⟩
      rw [m69_quirref_Clock_K4] at h
      refine L.y rfl (Y.assign rfl) ?_
      refine L.nil (E.thenN (W.seq (W.region (L.y rfl (Y.move rfl) ?_))))
      refine L.y rfl (Y.move rfl) ?_
      refine L.y rfl (Y.geq rfl rfl) ?_
      refine L.litOne rfl Try.underlying54 el4 rfl rfl ?_
      intro b11
      refine L.appM (i := 4) (g := B) (l := gl21) (more := [decide (0 ≤ gx30)]) h rfl Try.underlying54 el4 rfl rfl rfl (fun w hw => As.at_ (hw.get (i := 0) rfl)) (plain_bools _) rfl ?_
      intro v12 l13 el13 h
      refine L.y rfl (Y.assign rfl) ?_
      refine L.nil (E.thenN (W.seqJ (fun gs D => gs = [(0, .int .i64 a0), (6, gv17), (7, v12), (8, .int .i64 gx22), (10, pt b10 0), (15, u1), (16, .int .i64 (a1.length : Int)), (17, .int .i64 gx23)] ∧ D = Cls w [] [.obj b10 [.int .i64 x9] 3, .sl gv17 183 1 (zp gq19 gl18), .os (zo TframeOf.row 185 gq19 gl18), .sl v12 4 1 (l13.map B)] ∧ m69_quirref_Clock_K5 gl18 a0 x9 gx23 go2 l13 gx22 = some r) ?_ ?_))
      ·
       refine W.seq (W.region (L.y rfl (Y.move rfl) ?_))
       refine L.ite h rfl (Y.geq rfl rfl) (fun c37 h => ?_) (fun c37 h => ?_)
       ·
        refine L.nil (E.thenN (W.condT rfl ?_))
        refine W.seq (W.region (L.y rfl (Y.move rfl) ?_))
        refine L.y rfl (Y.move rfl) ?_
        obtain ⟨x38, ex38, h⟩ := bind1S h
        refine L.y rfl (Y.indexPp (q := 3) (g := gq19) (l := gl18) Try.underlying181 sz183 rfl rfl rfl x38 ex38) ?_
        refine L.y rfl (Y.loadPp (q := 3) (g := gq19) (l := gl18) (a := gx30) ag183 rfl rfl ex38) ?_
        refine L.y rfl (Y.nilCheck rfl) ?_
        refine L.y rfl (Y.fieldP fd185_1 rfl) ?_
        refine L.storePo (p := 3) (q := 4) (row := TframeOf.row) (g := gq19) (l := gl18) (a := gx30) (k := 2) (vals := [.bool true]) (j := 1) (u1 := (⟨x38.page_, true⟩ : TframeOf)) h sz4 rfl rfl rfl rfl (all1 rfl all0) rfl rfl ex38 (fun _ => rfl) rfl rfl ?_
        intro l39 el39 h
        exact L.nil (E.thenN (W.exit (E.KSX (E.blockX (E.joinJ ⟨gv17, l39, gq19, v12, l13, gx22, rfl, rfl, h⟩ ⟨rfl, rfl, rfl, rfl, rfl, rfl, rfl, trivial⟩ (fun _ hw => hw.sel [3, 4, 0] (by decide) rfl))))))
       ·
        refine L.nil (E.thenN (W.condF rfl ?_))
        exact W.skip (E.joinJ ⟨rfl, rfl, h⟩ ⟨rfl, rfl, rfl, rfl, rfl, rfl, rfl, rfl, trivial⟩ (fun _ hw => hw.sel [2, 3, 4, 0] (by decide) rfl))
      ·
       rintro _ _ ⟨rfl, rfl, h⟩
       rw [m69_quirref_Clock_K5] at h
       refine W.seqJ (fun gs D => gs = [(0, .int .i64 a0), (6, gv17), (7, v12), (8, .int .i64 gx22), (10, pt b10 0), (15, u1), (16, .int .i64 (a1.length : Int)), (17, .int .i64 gx23)] ∧ D = Cls w [] [.obj b10 [.int .i64 x9] 3, .sl gv17 183 1 (zp gq19 gl18), .os (zo TframeOf.row 185 gq19 gl18), .sl v12 4 1 (l13.map B)] ∧ m69_quirref_Clock_K6 a0 x9 gx23 go2 l13 gl18 gx22 = some r) ?_ ?_
       ·
        refine W.seq (W.region (L.y rfl (Y.move rfl) ?_))
        refine L.y rfl (Y.lenPp (q := 1) (g := gq19) (l := gl18) Try.underlying181 rfl rfl) ?_
        refine L.y rfl (Y.move rfl) ?_
        refine L.ite h rfl (Y.lss rfl rfl) (fun c31 h => ?_) (fun c31 h => ?_)
        ·
         refine L.nil (E.thenN (W.condT rfl ?_))
         refine W.seq (W.region (L.y rfl (Y.move rfl) ?_))
         refine L.y rfl (Y.loadP (i := 0) ag3 rfl rfl rfl) ?_
         refine L.y rfl (Y.build (cells := #[.int .i64 x9, .bool true]) rfl (by kernel_rfl)) ?_
         refine L.box rfl rfl ?_
         intro b32
         refine L.litOne rfl Try.underlying181 el183 rfl rfl ?_
         intro b33
         refine L.to (D := Cls w [] [.sl gv17 183 1 (zp gq19 gl18), .os (zo TframeOf.row 185 gq19 gl18), .obj b32 (TframeOf.row (⟨x9, true⟩ : TframeOf)) 185, .sl (sv b33 1) 183 1 [[pt b32 0]], .obj b10 [.int .i64 x9] 3, .sl v12 4 1 (l13.map B)]) (fun _ hw => hw.sel [3, 4, 1, 0, 2, 5] (by decide) rfl) ?_
         refine L.appPp (row := TframeOf.row) (g := gq19) (l := gl18) (u0 := (⟨x9, true⟩ : TframeOf)) h rfl Try.underlying181 el183 rfl rfl rfl ?_
         intro v34 q35 l36 el36 h
         refine L.y rfl (Y.assign rfl) ?_
         exact L.nil (E.thenN (W.exit (E.KSX (E.blockX (E.joinJ ⟨v34, l36, q35, v12, l13, gx22, rfl, rfl, h⟩ ⟨rfl, rfl, rfl, rfl, rfl, rfl, rfl, trivial⟩ (fun _ hw => hw.sel [0, 1, 4] (by decide) rfl))))))
        ·
         refine L.nil (E.thenN (W.condF rfl ?_))
         exact W.skip (E.joinJ ⟨rfl, rfl, h⟩ ⟨rfl, rfl, rfl, rfl, rfl, rfl, rfl, rfl, trivial⟩ (fun _ hw => hw))
       ·
        rintro _ _ ⟨rfl, rfl, h⟩
        rw [m69_quirref_Clock_K6] at h
        refine W.seqJ (fun gs D => ∃ (gl31 : (List TframeOf)) (gx32 : Int), gs = [(0, .int .i64 a0), (6, gv17), (7, v12), (8, .int .i64 gx32), (10, pt b10 0), (15, u1), (16, .int .i64 (a1.length : Int)), (17, .int .i64 gx23)] ∧ D = Cls w [] [.obj b10 [.int .i64 x9] 3, .sl gv17 183 1 (zp gq19 gl31), .os (zo TframeOf.row 185 gq19 gl31), .sl v12 4 1 (l13.map B)] ∧ m69_quirref_Clock_K7 a0 x9 gx23 go2 l13 gl31 gx32 = some r) ?_ ?_
        ·
         refine W.block (W.loopJ (fun m gs D => ∃ (gl33 : (List TframeOf)) (gx34 : Int), gs = [(0, .int .i64 a0), (6, gv17), (7, v12), (8, .int .i64 gx34), (10, pt b10 0), (15, u1), (16, .int .i64 (a1.length : Int)), (17, .int .i64 gx23)] ∧ D = Cls w [] [.obj b10 [.int .i64 x9] 3, .sl gv17 183 1 (zp gq19 gl33), .os (zo TframeOf.row 185 gq19 gl33), .sl v12 4 1 (l13.map B)] ∧ m69_quirref_Clock_L3 a0 x9 gx23 go2 l13 m gl33 gx34 = some r) ⟨gl18, gx22, rfl, rfl, h⟩ ⟨rfl, rfl, rfl, rfl, rfl, rfl, rfl, rfl, trivial⟩ (fun _ hw => hw) ?_)
         rintro m _ _ ⟨gl33, gx34, rfl, rfl, h⟩
         rcases m with _ | m
         · rw [m69_quirref_Clock_L3] at h; cases h
         rw [m69_quirref_Clock_L3] at h
         generalize hg3 : m69_quirref_Clock_L3 a0 x9 gx23 go2 l13 m = go3 at h
         rw [m69_quirref_Clock_L3B] at h
         refine W.seq (W.seq (W.region (L.y rfl (Y.move rfl) ?_)))
         refine L.y rfl (Y.move rfl) ?_
         refine L.y rfl (Y.move rfl) ?_
         refine L.m (V := fun x24 => .int .i64 x24) h rfl (Y.remM rfl rfl) (fun x24 ex24 h => ?_)
         obtain ⟨x25, ex25, h⟩ := bind1S h
         refine L.y rfl (Y.indexPp (q := 1) (g := gq19) (l := gl33) Try.underlying181 sz183 rfl rfl rfl x25 ex25) ?_
         refine L.y rfl (Y.loadPp (q := 1) (g := gq19) (l := gl33) (a := x24) ag183 rfl rfl ex25) ?_
         refine L.y rfl (Y.nilCheck rfl) ?_
         refine L.y rfl (Y.fieldP fd185_1 rfl) ?_
         refine L.iteB h rfl (Y.loadPo (q := 2) (row := TframeOf.row) (g := gq19) (l := gl33) (a := x24) (j := 1) (pv := .bool x25.mark_) ag4 rfl rfl ex25 rfl) (fun c26 h => ?_) (fun c26 h => ?_)
         ·
          refine L.nil (E.thenN (W.condT rfl ?_))
          refine W.skip (E.thenN (W.block (W.seq (W.region (L.y rfl (Y.move rfl) ?_)))))
          refine L.y rfl (Y.move rfl) ?_
          refine L.y rfl (Y.move rfl) ?_
          refine L.m (V := fun x27 => .int .i64 x27) h rfl (Y.remM rfl rfl) (fun x27 ex27 h => ?_)
          obtain ⟨x28, ex28, h⟩ := bind1S h
          refine L.y rfl (Y.indexPp (q := 1) (g := gq19) (l := gl33) Try.underlying181 sz183 rfl rfl rfl x28 ex28) ?_
          refine L.y rfl (Y.loadPp (q := 1) (g := gq19) (l := gl33) (a := x27) ag183 rfl rfl ex28) ?_
          refine L.y rfl (Y.nilCheck rfl) ?_
          refine L.y rfl (Y.fieldP fd185_1 rfl) ?_
          refine L.storePo (p := 1) (q := 2) (row := TframeOf.row) (g := gq19) (l := gl33) (a := x27) (k := 2) (vals := [.bool false]) (j := 1) (u1 := (⟨x28.page_, false⟩ : TframeOf)) h sz4 rfl rfl rfl rfl (all1 rfl all0) rfl rfl ex28 (fun _ => rfl) rfl rfl ?_
          intro l29 el29 h
          refine L.nil (E.thenN (W.region (L.y rfl (Y.move rfl) ?_)))
          refine L.m (V := fun x30 => .int .i64 x30) h rfl (Y.addM rfl rfl) (fun x30 ex30 h => ?_)
          refine L.y rfl (Y.assign rfl) ?_
          exact L.nil (E.blockN (E.againJ ⟨l29, x30, rfl, rfl, by rw [hg3]; exact h⟩ (Nat.lt_succ_self _) ⟨rfl, rfl, rfl, rfl, rfl, rfl, rfl, rfl, trivial⟩ (fun _ hw => hw)))
         ·
          refine L.nil (E.thenN (W.condF rfl ?_))
          exact W.exit (E.thenX (E.KLX (E.blockX (E.joinJ ⟨gl33, gx34, rfl, rfl, h⟩ ⟨rfl, rfl, rfl, rfl, rfl, rfl, rfl, rfl, trivial⟩ (fun _ hw => hw)))))
        ·
         rintro _ _ ⟨gl31, gx32, rfl, rfl, h⟩
         rw [m69_quirref_Clock_K7] at h
         refine W.seq (W.drawn2 (k := 10) (stC [[9]] [Cls w [] [.obj b10 [.int .i64 x9] 3, .sl gv17 183 1 (zp gq19 gl31), .os (zo TframeOf.row 185 gq19 gl31), .sl v12 4 1 (l13.map B)]] (Cls w [] [.obj b10 [.int .i64 x9] 3, .sl v12 4 1 (l13.map B)])) rfl mixed (fun _ hw => hw.drew) (Sc.now (by kernel_rfl) (fun _ hw => hw)) ?_)
         refine V2.y (i := 0) (Nx2.of (Z := Cls w [] [.obj b10 [.int .i64 x9] 3, .sl v12 4 1 (l13.map B)]) [] (by kernel_rfl) rfl (Zc.on (fun _ hw => hw.sel [0, 3] (by decide) rfl) (Zc.fin (fun _ hw => hw)))) rfl rfl rfl (Y.move rfl) ?_
         refine V2.y (i := 1) (Nx2.of (Z := Cls w [] [.obj b10 [.int .i64 x9] 3, .sl v12 4 1 (l13.map B)]) [] (by kernel_rfl) rfl (Zc.on (fun _ hw => hw.sel [0, 3] (by decide) rfl) (Zc.fin (fun _ hw => hw)))) rfl rfl rfl (Y.move rfl) ?_
         refine V2.y (i := 2) (Nx2.of (Z := Cls w [] [.obj b10 [.int .i64 x9] 3, .sl v12 4 1 (l13.map B)]) [] (by kernel_rfl) rfl (Zc.on (fun _ hw => hw.sel [0, 3] (by decide) rfl) (Zc.fin (fun _ hw => hw)))) rfl rfl rfl (Y.move rfl) ?_
         refine V2.m (i := 3) (V' := fun x20 => .int .i64 x20) h (Nx2.of (Z := Cls w [] [.obj b10 [.int .i64 x9] 3, .sl v12 4 1 (l13.map B)]) [] (by kernel_rfl) rfl (Zc.on (fun _ hw => hw.sel [0, 3] (by decide) rfl) (Zc.fin (fun _ hw => hw)))) rfl rfl rfl (Y.remM rfl rfl) (fun x20 ex20 h => ?_)
         obtain ⟨x21, ex21, h⟩ := bind1S h
         refine V2.y (i := 4) (Nx2.of (Z := Cls w [] [.obj b10 [.int .i64 x9] 3, .sl gv17 183 1 (zp gq19 gl31), .os (zo TframeOf.row 185 gq19 gl31), .sl v12 4 1 (l13.map B)]) [9] (by kernel_rfl) rfl (Zc.at1 (fun _ hw => hw))) rfl rfl rfl (Y.indexPp (q := 1) (g := gq19) (l := gl31) Try.underlying181 sz183 rfl rfl rfl x21 ex21) ?_
         refine V2.y (i := 5) (Nx2.of (Z := Cls w [] [.obj b10 [.int .i64 x9] 3, .sl gv17 183 1 (zp gq19 gl31), .os (zo TframeOf.row 185 gq19 gl31), .sl v12 4 1 (l13.map B)]) [9] (by kernel_rfl) rfl (Zc.at1 (fun _ hw => hw))) rfl rfl rfl (Y.loadPp (q := 1) (g := gq19) (l := gl31) (a := x20) ag183 rfl rfl ex21) ?_
         refine V2.y (i := 6) (Nx2.of (Z := Cls w [] [.obj b10 [.int .i64 x9] 3, .sl v12 4 1 (l13.map B)]) [] (by kernel_rfl) rfl (Zc.on (fun _ hw => hw.sel [0, 3] (by decide) rfl) (Zc.fin (fun _ hw => hw)))) rfl rfl rfl (Y.loadP (i := 0) ag3 rfl rfl rfl) ?_
         refine V2.y (i := 7) (Nx2.of (Z := Cls w [] [.obj b10 [.int .i64 x9] 3, .sl v12 4 1 (l13.map B)]) [] (by kernel_rfl) rfl (Zc.on (fun _ hw => hw.sel [0, 3] (by decide) rfl) (Zc.fin (fun _ hw => hw)))) rfl rfl rfl (Y.build (cells := #[.int .i64 x9, .bool true]) rfl (by kernel_rfl)) ?_
         refine V2.nilc (i := 8) (Nx2.of (Z := Cls w [] [.obj b10 [.int .i64 x9] 3, .sl v12 4 1 (l13.map B)]) [] (by kernel_rfl) rfl (Zc.on (fun _ hw => hw.sel [0, 3] (by decide) rfl) (Zc.fin (fun _ hw => hw)))) rfl rfl rfl ?_
         refine V2.eff (i := 9) (by kernel_rfl) rfl ?_
         refine L.storePo (p := 1) (q := 2) (row := TframeOf.row) (g := gq19) (l := gl31) (a := x20) (k := 2) (vals := [.int .i64 x9, .bool true]) (j := 0) (u1 := (⟨x9, true⟩ : TframeOf)) h sz185 rfl rfl rfl rfl (all1 rfl (all1 rfl all0)) rfl rfl ex21 (fun _ => rfl) rfl rfl ?_
         intro l22 el22 h
         refine L.nil (E.toV2 (stC [] [] (Cls w [] [.obj b10 [.int .i64 x9] 3, .sl v12 4 1 (l13.map B)])) 9 (by kernel_rfl) (Sc.past rfl (Sc.stayD (fun _ hw => hw))) (Sc.atD (fun _ hw => hw.sel [0, 3] (by decide) rfl)) ?_)
         refine V2.done (by kernel_rfl) ?_
         refine E.thenN (W.region (L.y rfl (Y.move rfl) ?_))
         refine L.m (V := fun x23 => .int .i64 x23) h rfl (Y.addM rfl rfl) (fun x23 ex23 h => ?_)
         refine L.y rfl (Y.assign rfl) ?_
         exact L.nil (E.blockN (E.joinJ ⟨gv17, l22, gq19, v12, l13, x23, rfl, rfl, h⟩ ⟨rfl, rfl, rfl, rfl, rfl, rfl, rfl, trivial⟩ (fun _ hw => hw.sel [1, 2, 3] (by decide) rfl)))
    ·
     rintro _ _ ⟨gv24, gl25, gq26, gv27, gl28, gx29, rfl, rfl, h⟩
     rw [m69_quirref_Clock_K3] at h
     refine W.region (L.m (V := fun x8 => .int .i64 x8) h rfl (Y.addM rfl rfl) (fun x8 ex8 h => ?_))
     refine L.y rfl (Y.move rfl) ?_
     exact L.nil (E.againJ ⟨gv24, gl25, gq26, gv27, gl28, gx29, x8, rfl, rfl, by rw [hg2]; exact h⟩ (Nat.lt_succ_self _) ⟨rfl, rfl, rfl, rfl, rfl, rfl, rfl, trivial⟩ (fun _ hw => hw))
   ·
    refine L.nil (E.thenN (W.seq (W.condF rfl ?_)))
    exact W.exit (E.thenX (E.KLX (E.blockX (E.joinJ ⟨gv17, gl18, gq19, gv20, gl21, rfl, rfl, h⟩ ⟨rfl, rfl, trivial⟩ (fun _ hw => hw)))))
  ·
   rintro _ _ ⟨gv1, gl2, gq3, gv4, gl5, rfl, rfl, h⟩
   rw [m69_quirref_Clock_K1] at h
   refine W.seq (W.region (L.y rfl (Y.assign rfl) ?_))
   refine L.nil (E.thenN (W.seqJ (fun gs D => ∃ (gv6 : Value) (gl7 : (List Int)), gs = [(7, gv4), (12, gv6)] ∧ D = Cls w [] [.sl gv4 4 1 (gl5.map B), .sl gv6 3 1 (gl7.map I)] ∧ m69_quirref_Clock_K2 gl5 gl7 = some r) ?_ ?_))
   ·
    refine W.seq (W.region (L.y rfl (Y.move rfl) ?_))
    refine L.y rfl (Y.lenPp (q := 0) (g := gq3) (l := gl2) Try.underlying181 rfl rfl) ?_
    refine L.y rfl (Y.move rfl) ?_
    refine L.nil (E.thenN (W.block (W.nilSl 3 1 ?_)))
    refine W.loopJ (fun m gs D => ∃ (gv8 : Value) (gl9 : (List Int)) (gx10 : Int), gs = [(7, gv4), (12, gv8), (78, gv1), (79, .int .i64 (gl2.length : Int)), (80, .int .i64 gx10)] ∧ D = Cls w [] [.sl gv4 4 1 (gl5.map B), .sl gv8 3 1 (gl9.map I), .sl gv1 183 1 (zp gq3 gl2), .os (zo TframeOf.row 185 gq3 gl2)] ∧ m69_quirref_Clock_L1 gl2 gl5 m gl9 gx10 = some r) ⟨.slice none 0 0, [], 0, rfl, rfl, h⟩ ⟨rfl, rfl, rfl, rfl, rfl, trivial⟩ (fun _ hw => hw.sel [3, 0, 1, 2] (by decide) rfl) ?_
    rintro m _ _ ⟨gv8, gl9, gx10, rfl, rfl, h⟩
    rcases m with _ | m
    · rw [m69_quirref_Clock_L1] at h; cases h
    rw [m69_quirref_Clock_L1] at h
    generalize hg1 : m69_quirref_Clock_L1 gl2 gl5 m = go1 at h
    rw [m69_quirref_Clock_L1B] at h
    refine W.seq (W.region (L.ite h rfl (Y.lss rfl rfl) (fun c1 h => ?_) (fun c1 h => ?_)))
    ·
     refine L.nil (E.thenN (W.seq (W.condT rfl ?_)))
     refine W.skip (E.thenN (W.seq (W.block (W.seq (W.region ?_)))))
     obtain ⟨x2, ex2, h⟩ := bind1S h
     refine L.y rfl (Y.indexPp (q := 2) (g := gq3) (l := gl2) Try.underlying181 sz183 rfl rfl rfl x2 ex2) ?_
     refine L.y rfl (Y.loadPp (q := 2) (g := gq3) (l := gl2) (a := gx10) ag183 rfl rfl ex2) ?_
     refine L.y rfl (Y.assign rfl) ?_
     refine L.nil (E.thenN (W.region (L.y rfl (Y.move rfl) ?_)))
     refine L.y rfl (Y.move rfl) ?_
     refine L.y rfl (Y.nilCheck rfl) ?_
     refine L.y rfl (Y.fieldP fd185_0 rfl) ?_
     refine L.y rfl (Y.loadPo (q := 3) (row := TframeOf.row) (g := gq3) (l := gl2) (a := gx10) (j := 0) (pv := .int .i64 x2.page_) ag3 rfl rfl ex2 rfl) ?_
     refine L.litOne rfl Try.underlying24 el3 rfl rfl ?_
     intro b3
     refine L.appM (i := 2) (g := I) (l := gl9) (more := [x2.page_]) h rfl Try.underlying24 el3 rfl rfl rfl (fun w hw => As.at_ (hw.get (i := 0) rfl)) (plain_ints _) rfl ?_
     intro v4 l5 el5 h
     refine L.y rfl (Y.assign rfl) ?_
     refine L.nil (E.blockN (E.thenN (W.region (L.m (V := fun x6 => .int .i64 x6) h rfl (Y.addM rfl rfl) (fun x6 ex6 h => ?_)))))
     refine L.y rfl (Y.move rfl) ?_
     exact L.nil (E.againJ ⟨v4, l5, x6, rfl, rfl, by rw [hg1]; exact h⟩ (Nat.lt_succ_self _) ⟨rfl, rfl, rfl, rfl, rfl, trivial⟩ (fun _ hw => hw.sel [2, 0, 3, 4] (by decide) rfl))
    ·
     refine L.nil (E.thenN (W.seq (W.condF rfl ?_)))
     exact W.exit (E.thenX (E.KLX (E.blockX (E.joinJ ⟨gv8, gl9, rfl, rfl, h⟩ ⟨rfl, rfl, trivial⟩ (fun _ hw => hw.sel [0, 1] (by decide) rfl)))))
   ·
    rintro _ _ ⟨gv6, gl7, rfl, rfl, h⟩
    rw [m69_quirref_Clock_K2] at h
    refine W.seq (W.region (L.y rfl (Y.move rfl) ?_))
    refine L.y rfl (Y.move rfl) ?_
    refine L.y rfl (Y.assign rfl) ?_
    refine L.y rfl (Y.assign rfl) ?_
    refine L.nil (E.thenN (W.ret (E.ret2 rfl rfl rfl (fun w1 hw => ?_))))
    obtain rfl := Option.some.inj h
    exact ⟨_, _, rfl, ⟨_, _, rfl, rfl⟩, hw⟩
set_option maxRecDepth 100000 in
set_option maxHeartbeats 8000000 in
theorem w70_quirref_Pool (a0 : Int) (a1 : Int) (a2 : (List Int)) (u2 : Value) (w : World) (r : ((List Bool) × (List Int))) (h : m70_quirref_Pool a0 a1 a2 = some r) (hA2 : At w u2 1 (a2.map I)) : Does Try.prog 70 [.int .i64 a0, .int .i64 a1, u2] w fun u m => ∃ v0 v1, u = .tuple #[v0, v1] ∧ m = [.sl v0 4 1 (r.1.map B), .sl v1 3 1 (r.2.map I)] := by
  rw [m70_quirref_Pool] at h
  refine body (n := 78) Try.func70 rfl rfl rfl (Cls.refl w) ?_
  refine W.seq (W.region (L.y rfl (Y.assign rfl) ?_))
  refine L.y rfl (Y.assign rfl) ?_
  refine L.nil (E.thenN (W.seq (W.region (L.makeMap rfl ?_))))
  intro b1
  refine L.y rfl (Y.assign rfl) ?_
  refine L.nil (E.thenN (W.seq (W.region (L.y rfl (Y.assign rfl) ?_))))
  refine L.nil (E.thenN (W.seqJ (fun gs D => ∃ (gv1 : Value) (gl2 : (List Bool)) (gl3 : (List (Int × Int))), gs = [(2, u2), (8, .map (some b1)), (9, gv1)] ∧ D = Cls w [] [.mp b1 (mrow (VI .i64) gl3), .sl gv1 4 1 (gl2.map B)] ∧ m70_quirref_Pool_K1 a2 gl2 gl3 = some r) ?_ ?_))
  ·
   refine W.seq (W.region (L.y rfl (Y.move rfl) ?_))
   refine L.y rfl (Y.lenM (g := I) (l := a2) Try.underlying24 rfl (fun w' hw => hA2.cls0 hw)) ?_
   refine L.y rfl (Y.move rfl) ?_
   refine L.nil (E.thenN (W.block (W.nilSl 4 1 ?_)))
   refine W.loopJ (fun m gs D => ∃ (gv14 : Value) (gl15 : (List Bool)) (gx16 : Int) (gl17 : (List (Int × Int))), gs = [(0, .int .i64 a0), (1, .int .i64 a1), (2, u2), (8, .map (some b1)), (9, gv14), (19, u2), (20, .int .i64 (a2.length : Int)), (21, .int .i64 gx16)] ∧ D = Cls w [] [.mp b1 (mrow (VI .i64) gl17), .sl gv14 4 1 (gl15.map B)] ∧ m70_quirref_Pool_L3 a2 a0 a1 m gl15 gx16 gl17 = some r) ⟨.slice none 0 0, [], 0, [], rfl, rfl, h⟩ ⟨rfl, rfl, rfl, rfl, rfl, rfl, rfl, rfl, trivial⟩ (fun _ hw => hw.sel [1, 0] (by decide) rfl) ?_
   rintro m _ _ ⟨gv14, gl15, gx16, gl17, rfl, rfl, h⟩
   rcases m with _ | m
   · rw [m70_quirref_Pool_L3] at h; cases h
   rw [m70_quirref_Pool_L3] at h
   generalize hg3 : m70_quirref_Pool_L3 a2 a0 a1 m = go3 at h
   rw [m70_quirref_Pool_L3B] at h
   refine W.seq (W.region (L.ite h rfl (Y.lss rfl rfl) (fun c12 h => ?_) (fun c12 h => ?_)))
   ·
    refine L.nil (E.thenN (W.seq (W.condT rfl ?_)))
    refine W.skip (E.thenN (W.seqJ (fun gs D => ∃ (gv18 : Value) (gl19 : (List Bool)) (gl20 : (List (Int × Int))), gs = [(0, .int .i64 a0), (1, .int .i64 a1), (2, u2), (8, .map (some b1)), (9, gv18), (19, u2), (20, .int .i64 (a2.length : Int)), (21, .int .i64 gx16)] ∧ D = Cls w [] [.mp b1 (mrow (VI .i64) gl20), .sl gv18 4 1 (gl19.map B)] ∧ m70_quirref_Pool_K4 gx16 go3 gl19 gl20 = some r) ?_ ?_))
    ·
     refine W.block (W.seq (W.region (L.y rfl (Y.move rfl) ?_)))
     refine L.m (V := fun _ => el u2 (gx16.toNat * 1)) h rfl (Y.indexM (g := I) (l := a2) Try.underlying24 sz3 rfl rfl (fun w' hw => hA2.cls0 hw)) (fun x14 ex14 h => ?_)
     refine L.y rfl (Y.loadE1 (u := .int .i64 x14) ag3 rfl (fun w' hw => hA2.cls0 hw) (idx_map ex14)) ?_
     refine L.y rfl (Y.assign rfl) ?_
     refine L.y rfl (Y.assign rfl) ?_
     refine L.nil (E.thenN (W.seqJ (fun gs D => ∃ (gb21 : Bool), gs = [(0, .int .i64 a0), (1, .int .i64 a1), (2, u2), (8, .map (some b1)), (9, gv14), (10, .int .i64 gx16), (11, .int .i64 x14), (13, .bool gb21), (19, u2), (20, .int .i64 (a2.length : Int)), (21, .int .i64 gx16)] ∧ D = Cls w [] [.mp b1 (mrow (VI .i64) gl17), .sl gv14 4 1 (gl15.map B)] ∧ m70_quirref_Pool_K5 gl15 a0 gl17 x14 gx16 go3 a1 a2 gb21 = some r) ?_ ?_))
     ·
      refine W.region (L.y rfl (Y.move rfl) ?_)
      refine L.y rfl (Y.move rfl) ?_
      refine L.y rfl (Y.lookupOk (i := 0) (g := (VI .i64)) (lm := gl17) (z0 := 0) Try.underlying160 Try.underlying3 (by kernel_rfl) rfl rfl rfl rfl) ?_
      refine L.y rfl (Y.move rfl) ?_
      refine L.y rfl (Y.extract rfl rfl) ?_
      refine L.iteB h rfl (Y.extract rfl rfl) (fun c68 h => ?_) (fun c68 h => ?_)
      ·
       refine L.y rfl (Y.assign rfl) ?_
       refine L.y rfl (Y.assign rfl) ?_
       exact L.nil (E.joinJ ⟨true, rfl, rfl, h⟩ ⟨rfl, rfl, rfl, rfl, rfl, rfl, rfl, rfl, rfl, rfl, rfl, trivial⟩ (fun _ hw => hw))
      ·
       refine L.y rfl (Y.assign rfl) ?_
       refine L.y rfl (Y.assign rfl) ?_
       exact L.nil (E.joinJ ⟨false, rfl, rfl, h⟩ ⟨rfl, rfl, rfl, rfl, rfl, rfl, rfl, rfl, rfl, rfl, rfl, trivial⟩ (fun _ hw => hw))
     ·
      rintro _ _ ⟨gb21, rfl, rfl, h⟩
      rw [m70_quirref_Pool_K5] at h
      rcases gb21 with _ | _
      ·
       replace h := iteF h
       refine W.seq (W.region (L.y rfl (Y.move rfl) ?_))
       refine L.y rfl (Y.move rfl) ?_
       refine L.litOne rfl Try.underlying54 el4 rfl rfl ?_
       intro b15
       refine L.appM (i := 2) (g := B) (l := gl15) (more := [false]) h rfl Try.underlying54 el4 rfl rfl rfl (fun w hw => As.at_ (hw.get (i := 0) rfl)) (plain_bools _) rfl ?_
       intro v16 l17 el17 h
       refine L.y rfl (Y.assign rfl) ?_
       refine L.nil (E.thenN (W.seq (W.seq (W.region (L.y rfl (Y.move rfl) ?_)))))
       refine L.nil (E.thenN (W.condF rfl ?_))
       refine W.skip (E.thenN (W.seq (W.seq (W.region (L.y rfl (Y.move rfl) ?_)))))
       refine L.y rfl (Y.lenMpM (i := 2) (g := (VI .i64)) (lm := gl17) Try.underlying160 rfl rfl rfl) ?_
       refine L.y rfl (Y.move rfl) ?_
       refine L.ite h rfl (Y.eql rfl rfl) (fun c18 h => ?_) (fun c18 h => ?_)
       ·
        refine L.nil (E.thenN (W.condT rfl ?_))
        refine W.region (L.y rfl (Y.move rfl) ?_)
        refine L.y rfl (Y.move rfl) ?_
        refine L.y rfl (Y.move rfl) ?_
        refine L.y rfl (Y.move rfl) ?_
        refine L.y rfl (Y.move rfl) ?_
        refine L.callJ (fun v D => ∃ (gx22 : Int), v = .int .i64 gx22 ∧ D = Cls w [] [.mp b1 (mrow (VI .i64) gl17), .sl v16 4 1 (l17.map B)] ∧ m70_quirref_Pool_K6 gl17 x14 gx16 go3 l17 gx22 = some r) rfl en127 rfl Try.func127 rfl rfl rfl ?_ ?_
        ·
         refine W.seq (W.region (L.y rfl (Y.assign rfl) ?_))
         refine L.nil (E.thenN (W.seq (W.region (L.y rfl (Y.assign rfl) ?_))))
         refine L.y rfl (Y.assign rfl) ?_
         refine L.nil (E.thenN (W.seq (W.region (L.y rfl (Y.build (cells := ((List.replicate 2 (0 : Int)).map I).flatten.toArray) rfl (by kernel_rfl)) ?_))))
         refine L.alloc rfl ze221 ?_
         intro b20
         refine L.to (D := Cls w [] [.obj b20 (((List.replicate 2 (0 : Int)).map I).flatten) 221, .sl v16 4 1 (l17.map B), .sl (sv b15 1) 4 1 (([false]).map B), .mp b1 (mrow (VI .i64) gl17)]) (fun _ hw => by first | exact hw | simpa [I, B, SR] using hw) ?_
         obtain ⟨_, en21, h⟩ := bind1S h
         obtain ⟨_, en21⟩ := arrN_some en21
         obtain ⟨_, en22, h⟩ := bind1S h
         obtain ⟨_, en22⟩ := arrN_some en22
         refine L.storeArW (i := 0) (row := I) (k := 1) en21 en22 rfl (fun _ => rfl) (plain_ints _) sz221 rfl rfl rfl ?_
         refine L.nil (E.thenN (W.seqJ (fun gs D => ∃ (gx23 : Int), gs = [(9, .int .i64 gx23)] ∧ D = Cls w [] [.mp b1 (mrow (VI .i64) gl17), .sl v16 4 1 (l17.map B)] ∧ m70_quirref_Pool_K7 gl17 x14 gx16 go3 l17 gx23 = some r) ?_ ?_))
         ·
          refine W.seq (W.region (L.y rfl (Y.move rfl) ?_))
          refine L.rangeM (i := 3) (g := (VI .i64)) (lm := gl17) rfl Try.underlying160 rfl rfl ?_
          intro b23
          refine L.nil (E.thenN (W.block (W.loopJ (fun m gs D => ∃ (gx24 : Int) (gb25 : Bool) (gl26 : (List (Int × Int))) (gl27 : (List Int)), gs = [(0, .int .i64 a0), (2, u2), (3, .int .i64 gx16), (9, .int .i64 gx24), (10, .bool gb25), (11, pt b20 0), (18, pt b23 0)] ∧ D = Cls w [] [.mi b1 b23 (mrow (VI .i64) gl17) (mrow (VI .i64) gl26) none, .obj b20 ((gl27.map I).flatten) 221, .sl v16 4 1 (l17.map B)] ∧ m70_quirref_Pool_L4 gl17 x14 gx16 go3 l17 a0 a2 m gx24 gb25 gl26 gl27 = some r) ⟨(-1), true, gl17, (List.replicate 2 (0 : Int)), rfl, rfl, h⟩ ⟨rfl, rfl, rfl, rfl, rfl, rfl, rfl, trivial⟩ (fun _ hw => hw.sel [0, 1, 2] (by decide) rfl) ?_)))
          rintro m _ _ ⟨gx24, gb25, gl26, gl27, rfl, rfl, h⟩
          rcases m with _ | m
          · rw [m70_quirref_Pool_L4] at h; cases h
          rw [m70_quirref_Pool_L4] at h
          generalize hg4 : m70_quirref_Pool_L4 gl17 x14 gx16 go3 l17 a0 a2 m = go4 at h
          rw [m70_quirref_Pool_L4B] at h
          refine W.seq (W.region (L.nextM (i := 0) (g := (VI .i64)) (lm := gl17) (left := gl26) h rfl rfl rfl (fun h => ?_) (fun x24 x25 l26 h => ?_)))
          ·
           refine L.y rfl (Y.extract rfl rfl) ?_
           refine L.nil (E.thenN (W.seq (W.condF rfl ?_)))
           exact W.exit (E.thenX (E.KLX (E.blockX (E.joinJ ⟨gx24, rfl, rfl, h⟩ ⟨rfl, trivial⟩ (fun _ hw => hw.sel [0, 2] (by decide) rfl)))))
          ·
           refine L.y rfl (Y.extract rfl rfl) ?_
           refine L.nil (E.thenN (W.seq (W.condT rfl ?_)))
           refine W.skip (E.thenN (W.block (W.seq (W.region (L.y rfl (Y.entryM (i := 0) (g := (VI .i64)) (lm := gl17) (k0 := x24) (v0 := x25) rfl rfl) ?_)))))
           refine L.y rfl (Y.extract rfl rfl) ?_
           refine L.y rfl (Y.extract rfl rfl) ?_
           refine L.y rfl (Y.assign rfl) ?_
           refine L.y rfl (Y.assign rfl) ?_
           refine L.nil (E.thenN (W.seq (W.region (L.y rfl (Y.move rfl) ?_))))
           refine L.y rfl (Y.build (cells := (([0, x25] : List Int).map I).flatten.toArray) rfl (by kernel_rfl)) ?_
           refine L.alloc rfl ze221 ?_
           intro b27
           refine L.to (D := Cls w [] [.obj b27 (((List.replicate 2 (0 : Int)).map I).flatten) 221, .mi b1 b23 (mrow (VI .i64) gl17) (mrow (VI .i64) l26) (some (x24, (VI .i64) x25)), .obj b20 ((gl27.map I).flatten) 221, .sl v16 4 1 (l17.map B)]) (fun _ hw => by first | exact hw | simpa [I, B, SR] using hw) ?_
           obtain ⟨_, en28, h⟩ := bind1S h
           obtain ⟨_, en28⟩ := arrN_some en28
           obtain ⟨_, en29, h⟩ := bind1S h
           obtain ⟨_, en29⟩ := arrN_some en29
           refine L.storeArW (i := 0) (row := I) (k := 1) en28 en29 rfl (fun _ => rfl) (plain_ints _) sz221 rfl rfl rfl ?_
           refine L.nil (E.thenN (W.seqJ (fun gs D => ∃ (gl28 : (List Int)), gs = [(0, .int .i64 a0), (2, u2), (3, .int .i64 gx16), (9, .int .i64 gx24), (10, .bool gb25), (11, pt b20 0), (12, .int .i64 x24), (14, pt b27 0), (18, pt b23 0)] ∧ D = Cls w [] [.obj b27 ((gl28.map I).flatten) 221, .mi b1 b23 (mrow (VI .i64) gl17) (mrow (VI .i64) l26) (some (x24, (VI .i64) x25)), .obj b20 ((gl27.map I).flatten) 221, .sl v16 4 1 (l17.map B)] ∧ m70_quirref_Pool_K8 gb25 gl27 go4 x24 l26 gx24 gl28 = some r) ?_ ?_))
           ·
            refine W.seq (W.region (L.y rfl (Y.move rfl) ?_))
            refine L.ite h rfl (Y.eql rfl rfl) (fun c52 h => ?_) (fun c52 h => ?_)
            ·
             refine L.nil (E.thenN (W.condT rfl ?_))
             refine W.seq (W.region (L.y rfl (Y.move rfl) ?_))
             refine L.y rfl (Y.move rfl) ?_
             refine L.y rfl (Y.lenM (g := I) (l := a2) Try.underlying24 rfl (fun w' hw => hA2.cls0 hw)) ?_
             refine L.m (V := fun x53 => .int .i64 x53) h rfl (Y.subM rfl rfl) (fun x53 ex53 h => ?_)
             refine L.m (V := fun _ => pt b27 (0 + (0 : Int).toNat * 1)) h rfl (Y.indexAM (l := ([0, x25] : List Int)) Try.underlying221 sz3 rfl rfl) (fun x54 ex54 h => ?_)
             refine L.storeArM (q := 0) (row := I) (vs := [.int .i64 x53]) (j := 0) (u1 := x53) h sz3 rfl rfl rfl rfl rfl (all1 rfl all0) rfl (fun _ => rfl) (idxA_idx ex54) rfl rfl ?_
             intro l55 el55 h
             refine L.nil (E.thenN (W.seq (W.region (L.y rfl (Y.move rfl) ?_))))
             refine L.y rfl (Y.move rfl) ?_
             refine L.m (V := fun _ => dropv u2 gx16.toNat 1) h rfl (Y.dropM (g := I) Try.underlying24 sz3 rfl rfl (fun w' hw => hA2.cls0 hw)) (fun l56 el56 h => ?_)
             refine L.y rfl (Y.move rfl) ?_
             obtain ⟨x57, e58, h⟩ := bind1S h
             refine L.y rfl (Y.does en121 rfl (fun w' hw => (w121_slices_Index_int l56 x24 (dropv u2 gx16.toNat 1) w' _ e58 ((At.dropM hA2 el56).cls0 hw)).mono (fun _ _ h => h.1))) ?_
             refine L.y rfl (Y.assign rfl) ?_
             refine L.nil (E.thenN (W.seq (W.region (L.y rfl (Y.move rfl) ?_))))
             refine L.ite h rfl (Y.geq rfl rfl) (fun c59 h => ?_) (fun c59 h => ?_)
             ·
              refine L.nil (E.thenN (W.condT rfl ?_))
              refine W.region (L.y rfl (Y.move rfl) ?_)
              refine L.y rfl (Y.neg rfl) ?_
              refine L.m (V := fun _ => pt b27 (0 + (0 : Int).toNat * 1)) h rfl (Y.indexAM (l := l55) Try.underlying221 sz3 rfl rfl) (fun x60 ex60 h => ?_)
              refine L.storeArM (q := 0) (row := I) (vs := [.int .i64 (IntKind.wrap .i64 (-x57))]) (j := 0) (u1 := IntKind.wrap .i64 (-x57)) h sz3 rfl rfl rfl rfl rfl (all1 rfl all0) rfl (fun _ => rfl) (idxA_idx ex60) rfl rfl ?_
              intro l61 el61 h
              exact L.nil (E.joinJ ⟨l61, rfl, rfl, h⟩ ⟨rfl, rfl, rfl, rfl, rfl, rfl, rfl, rfl, rfl, trivial⟩ (fun _ hw => hw))
             ·
              refine L.nil (E.thenN (W.condF rfl ?_))
              exact W.skip (E.joinJ ⟨l55, rfl, rfl, h⟩ ⟨rfl, rfl, rfl, rfl, rfl, rfl, rfl, rfl, rfl, trivial⟩ (fun _ hw => hw))
            ·
             refine L.nil (E.thenN (W.condF rfl ?_))
             exact W.skip (E.joinJ ⟨([0, x25] : List Int), rfl, rfl, h⟩ ⟨rfl, rfl, rfl, rfl, rfl, rfl, rfl, rfl, rfl, trivial⟩ (fun _ hw => hw))
           ·
            rintro _ _ ⟨gl28, rfl, rfl, h⟩
            rw [m70_quirref_Pool_K8] at h
            refine W.seq (W.region (L.cutJ 8 (fun gs D => ∃ (gb29 : Bool), gs = [(0, .int .i64 a0), (2, u2), (3, .int .i64 gx16), (9, .int .i64 gx24), (10, .bool gb25), (11, pt b20 0), (12, .int .i64 x24), (14, pt b27 0), (18, pt b23 0), (50, .bool gb29)] ∧ D = Cls w [] [.obj b27 ((gl28.map I).flatten) 221, .mi b1 b23 (mrow (VI .i64) gl17) (mrow (VI .i64) l26) (some (x24, (VI .i64) x25)), .obj b20 ((gl27.map I).flatten) 221, .sl v16 4 1 (l17.map B)] ∧ m70_quirref_Pool_K9 gl28 gl27 go4 x24 l26 gx24 gb25 gb29 = some r) ?_ ?_))
            ·
             refine L.iteB h rfl (Y.move rfl) (fun c48 h => ?_) (fun c48 h => ?_)
             ·
              refine L.y rfl (Y.move rfl) ?_
              refine L.pass rfl rfl (by nofun) ?_
              refine L.pass rfl rfl (by nofun) ?_
              refine L.pass rfl rfl (by nofun) ?_
              refine L.pass rfl rfl (by nofun) ?_
              refine L.pass rfl rfl (by nofun) ?_
              refine L.y rfl (Y.pickT rfl rfl) ?_
              exact L.nil (E.joinJ ⟨true, rfl, rfl, h⟩ ⟨rfl, rfl, rfl, rfl, rfl, rfl, rfl, rfl, rfl, rfl, trivial⟩ (fun _ hw => hw))
             ·
              refine L.y rfl (Y.move rfl) ?_
              refine L.take rfl (L.m (V := fun _ => pt b27 (0 + (0 : Int).toNat * 1)) h rfl (Y.indexAM (l := gl28) Try.underlying221 sz3 rfl rfl) (fun x49 ex49 h => ?_))
              refine L.take rfl (L.y rfl (Y.loadAr (q := 0) (row := I) (j := 0) (p := .int .i64 x49) ag3 rfl rfl rfl (fun _ => rfl) (idxA_idx ex49) rfl) ?_)
              refine L.take rfl (L.m (V := fun _ => pt b20 (0 + (0 : Int).toNat * 1)) h rfl (Y.indexAM (l := gl27) Try.underlying221 sz3 rfl rfl) (fun x50 ex50 h => ?_))
              refine L.take rfl (L.y rfl (Y.loadAr (q := 2) (row := I) (j := 0) (p := .int .i64 x50) ag3 rfl rfl rfl (fun _ => rfl) (idxA_idx ex50) rfl) ?_)
              refine L.take rfl (L.ite h rfl (Y.lss rfl rfl) (fun c51 h => ?_) (fun c51 h => ?_))
              ·
               refine L.y rfl (Y.pickF rfl rfl) ?_
               exact L.nil (E.joinJ ⟨true, rfl, rfl, h⟩ ⟨rfl, rfl, rfl, rfl, rfl, rfl, rfl, rfl, rfl, rfl, trivial⟩ (fun _ hw => hw))
              ·
               refine L.y rfl (Y.pickF rfl rfl) ?_
               exact L.nil (E.joinJ ⟨false, rfl, rfl, h⟩ ⟨rfl, rfl, rfl, rfl, rfl, rfl, rfl, rfl, rfl, rfl, trivial⟩ (fun _ hw => hw))
            ·
             rintro _ _ ⟨gb29, rfl, rfl, h⟩
             rw [m70_quirref_Pool_K9] at h
             rcases gb29 with _ | _
             ·
              replace h := iteF h
              refine L.cutJ 13 (fun gs D => ∃ (gb30 : Bool), gs = [(0, .int .i64 a0), (2, u2), (3, .int .i64 gx16), (9, .int .i64 gx24), (10, .bool gb25), (11, pt b20 0), (12, .int .i64 x24), (14, pt b27 0), (18, pt b23 0), (51, .bool false), (63, .bool gb30)] ∧ D = Cls w [] [.obj b27 ((gl28.map I).flatten) 221, .mi b1 b23 (mrow (VI .i64) gl17) (mrow (VI .i64) l26) (some (x24, (VI .i64) x25)), .obj b20 ((gl27.map I).flatten) 221, .sl v16 4 1 (l17.map B)] ∧ m70_quirref_Pool_K10 gl28 gl27 go4 x24 l26 gx24 gb25 gb30 = some r) ?_ ?_
              ·
               refine L.y rfl (Y.move rfl) ?_
               refine L.take rfl (L.m (V := fun _ => pt b27 (0 + (0 : Int).toNat * 1)) h rfl (Y.indexAM (l := gl28) Try.underlying221 sz3 rfl rfl) (fun x36 ex36 h => ?_))
               refine L.take rfl (L.y rfl (Y.loadAr (q := 0) (row := I) (j := 0) (p := .int .i64 x36) ag3 rfl rfl rfl (fun _ => rfl) (idxA_idx ex36) rfl) ?_)
               refine L.take rfl (L.m (V := fun _ => pt b20 (0 + (0 : Int).toNat * 1)) h rfl (Y.indexAM (l := gl27) Try.underlying221 sz3 rfl rfl) (fun x37 ex37 h => ?_))
               refine L.take rfl (L.y rfl (Y.loadAr (q := 2) (row := I) (j := 0) (p := .int .i64 x37) ag3 rfl rfl rfl (fun _ => rfl) (idxA_idx ex37) rfl) ?_)
               refine L.take rfl (L.ite h rfl (Y.eql rfl rfl) (fun c38 h => ?_) (fun c38 h => ?_))
               ·
                refine L.take rfl (L.y rfl (Y.move rfl) ?_)
                refine L.take rfl (L.m (V := fun _ => pt b27 (0 + (1 : Int).toNat * 1)) h rfl (Y.indexAM (l := gl28) Try.underlying221 sz3 rfl rfl) (fun x39 ex39 h => ?_))
                refine L.take rfl (L.y rfl (Y.loadAr (q := 0) (row := I) (j := 0) (p := .int .i64 x39) ag3 rfl rfl rfl (fun _ => rfl) (idxA_idx ex39) rfl) ?_)
                refine L.take rfl (L.m (V := fun _ => pt b20 (0 + (1 : Int).toNat * 1)) h rfl (Y.indexAM (l := gl27) Try.underlying221 sz3 rfl rfl) (fun x40 ex40 h => ?_))
                refine L.take rfl (L.y rfl (Y.loadAr (q := 2) (row := I) (j := 0) (p := .int .i64 x40) ag3 rfl rfl rfl (fun _ => rfl) (idxA_idx ex40) rfl) ?_)
                refine L.take rfl (L.ite h rfl (Y.lss rfl rfl) (fun c41 h => ?_) (fun c41 h => ?_))
                ·
                 refine L.take rfl (L.y rfl (Y.pickT rfl rfl) ?_)
                 exact L.nil (E.joinJ ⟨true, rfl, rfl, h⟩ ⟨rfl, rfl, rfl, rfl, rfl, rfl, rfl, rfl, rfl, rfl, rfl, trivial⟩ (fun _ hw => hw))
                ·
                 refine L.take rfl (L.y rfl (Y.pickT rfl rfl) ?_)
                 exact L.nil (E.joinJ ⟨false, rfl, rfl, h⟩ ⟨rfl, rfl, rfl, rfl, rfl, rfl, rfl, rfl, rfl, rfl, rfl, trivial⟩ (fun _ hw => hw))
               ·
                refine L.take rfl (L.y rfl (Y.move rfl) ?_)
                refine L.pass rfl rfl (by nofun) ?_
                refine L.pass rfl rfl (by nofun) ?_
                refine L.pass rfl rfl (by nofun) ?_
                refine L.pass rfl rfl (by nofun) ?_
                refine L.pass rfl rfl (by nofun) ?_
                refine L.take rfl (L.y rfl (Y.pickF rfl rfl) ?_)
                exact L.nil (E.joinJ ⟨false, rfl, rfl, h⟩ ⟨rfl, rfl, rfl, rfl, rfl, rfl, rfl, rfl, rfl, rfl, rfl, trivial⟩ (fun _ hw => hw))
              ·
               rintro _ _ ⟨gb30, rfl, rfl, h⟩
               rw [m70_quirref_Pool_K10] at h
               rcases gb30 with _ | _
               ·
                replace h := iteF h
                refine L.y rfl (Y.pickF rfl rfl) ?_
                refine L.nil (E.thenN (W.condF rfl ?_))
                exact W.skip (E.blockN (E.againJ ⟨gx24, gb25, l26, gl27, rfl, rfl, by rw [hg4]; exact h⟩ (Nat.lt_succ_self _) ⟨rfl, rfl, rfl, rfl, rfl, rfl, rfl, trivial⟩ (fun _ hw => (hw.miNone (i := 1) rfl).sel [1, 2, 3] (by decide) rfl)))
               ·
                replace h := iteT h
                refine L.y rfl (Y.pickF rfl rfl) ?_
                refine L.nil (E.thenN (W.condT rfl ?_))
                refine W.drawn2 (k := 5) (stC [[3]] [Cls w [] [.obj b27 ((gl28.map I).flatten) 221, .mi b1 b23 (mrow (VI .i64) gl17) (mrow (VI .i64) l26) (some (x24, (VI .i64) x25)), .obj b20 ((gl27.map I).flatten) 221, .sl v16 4 1 (l17.map B)]] (Cls w [] [.obj b27 ((gl28.map I).flatten) 221, .mi b1 b23 (mrow (VI .i64) gl17) (mrow (VI .i64) l26) (some (x24, (VI .i64) x25)), .sl v16 4 1 (l17.map B)])) rfl mixed (fun _ hw => hw.drew) (Sc.now (by kernel_rfl) (fun _ hw => hw)) ?_
                refine V2.y (i := 0) (Nx2.of (Z := Cls w [] [.obj b27 ((gl28.map I).flatten) 221, .mi b1 b23 (mrow (VI .i64) gl17) (mrow (VI .i64) l26) (some (x24, (VI .i64) x25)), .sl v16 4 1 (l17.map B)]) [] (by kernel_rfl) rfl (Zc.on (fun _ hw => hw.sel [0, 1, 3] (by decide) rfl) (Zc.fin (fun _ hw => hw)))) rfl rfl rfl (Y.move rfl) ?_
                obtain ⟨_, en33, h⟩ := bind1S h
                obtain ⟨_, en33⟩ := arrN_some en33
                refine V2.y (i := 1) (Nx2.of (Z := Cls w [] [.obj b27 ((gl28.map I).flatten) 221, .mi b1 b23 (mrow (VI .i64) gl17) (mrow (VI .i64) l26) (some (x24, (VI .i64) x25)), .sl v16 4 1 (l17.map B)]) [] (by kernel_rfl) rfl (Zc.on (fun _ hw => hw.sel [0, 1, 3] (by decide) rfl) (Zc.fin (fun _ hw => hw)))) rfl rfl rfl (Y.loadArAll (q := 0) (row := I) (k := 1) ag221 sz221 rfl rfl (fun _ => rfl) (by rw [en33])) ?_
                refine V2.y (i := 2) (Nx2.of (Z := Cls w [] [.obj b27 ((gl28.map I).flatten) 221, .mi b1 b23 (mrow (VI .i64) gl17) (mrow (VI .i64) l26) (some (x24, (VI .i64) x25)), .sl v16 4 1 (l17.map B)]) [] (by kernel_rfl) rfl (Zc.on (fun _ hw => hw.sel [0, 1, 3] (by decide) rfl) (Zc.fin (fun _ hw => hw)))) rfl rfl rfl (Y.assign rfl) ?_
                refine V2.eff (i := 3) (by kernel_rfl) rfl ?_
                obtain ⟨_, en34, h⟩ := bind1S h
                obtain ⟨_, en34⟩ := arrN_some en34
                obtain ⟨_, en35, h⟩ := bind1S h
                obtain ⟨_, en35⟩ := arrN_some en35
                refine L.storeArW (i := 2) (row := I) (k := 1) en34 en35 rfl (fun _ => rfl) (plain_ints _) sz221 rfl rfl rfl ?_
                refine L.nil (E.toV2 (stC [] [] (Cls w [] [.obj b27 ((gl28.map I).flatten) 221, .mi b1 b23 (mrow (VI .i64) gl17) (mrow (VI .i64) l26) (some (x24, (VI .i64) x25)), .sl v16 4 1 (l17.map B)])) 3 (by kernel_rfl) (Sc.past rfl (Sc.stayD (fun _ hw => hw))) (Sc.atD (fun _ hw => hw.sel [0, 1, 3] (by decide) rfl)) ?_)
                refine V2.y (i := 4) (Nx2.of (Z := Cls w [] [.obj b27 ((gl28.map I).flatten) 221, .mi b1 b23 (mrow (VI .i64) gl17) (mrow (VI .i64) l26) (some (x24, (VI .i64) x25)), .sl v16 4 1 (l17.map B)]) [] (by kernel_rfl) rfl (Zc.fin (fun _ hw => hw))) rfl rfl rfl (Y.assign rfl) ?_
                refine V2.done (by kernel_rfl) ?_
                exact E.blockN (E.againJ ⟨x24, false, l26, gl28, rfl, rfl, by rw [hg4]; exact h⟩ (Nat.lt_succ_self _) ⟨rfl, rfl, rfl, rfl, rfl, rfl, rfl, trivial⟩ (fun _ hw => (hw.miNone (i := 1) rfl).sel [1, 2, 3] (by decide) rfl))
             ·
              replace h := iteT h
              refine L.y rfl (Y.move rfl) ?_
              refine L.pass rfl rfl (by nofun) ?_
              refine L.pass rfl rfl (by nofun) ?_
              refine L.pass rfl rfl (by nofun) ?_
              refine L.pass rfl rfl (by nofun) ?_
              refine L.pass rfl rfl (by nofun) ?_
              refine L.pass rfl rfl (by nofun) ?_
              refine L.pass rfl rfl (by nofun) ?_
              refine L.pass rfl rfl (by nofun) ?_
              refine L.pass rfl rfl (by nofun) ?_
              refine L.pass rfl rfl (by nofun) ?_
              refine L.pass rfl rfl (by nofun) ?_
              refine L.pass rfl rfl (by nofun) ?_
              refine L.y rfl (Y.pickT rfl rfl) ?_
              refine L.nil (E.thenN (W.condT rfl ?_))
              refine W.drawn2 (k := 5) (stC [[3]] [Cls w [] [.obj b27 ((gl28.map I).flatten) 221, .mi b1 b23 (mrow (VI .i64) gl17) (mrow (VI .i64) l26) (some (x24, (VI .i64) x25)), .obj b20 ((gl27.map I).flatten) 221, .sl v16 4 1 (l17.map B)]] (Cls w [] [.obj b27 ((gl28.map I).flatten) 221, .mi b1 b23 (mrow (VI .i64) gl17) (mrow (VI .i64) l26) (some (x24, (VI .i64) x25)), .sl v16 4 1 (l17.map B)])) rfl mixed (fun _ hw => hw.drew) (Sc.now (by kernel_rfl) (fun _ hw => hw)) ?_
              refine V2.y (i := 0) (Nx2.of (Z := Cls w [] [.obj b27 ((gl28.map I).flatten) 221, .mi b1 b23 (mrow (VI .i64) gl17) (mrow (VI .i64) l26) (some (x24, (VI .i64) x25)), .sl v16 4 1 (l17.map B)]) [] (by kernel_rfl) rfl (Zc.on (fun _ hw => hw.sel [0, 1, 3] (by decide) rfl) (Zc.fin (fun _ hw => hw)))) rfl rfl rfl (Y.move rfl) ?_
              obtain ⟨_, en45, h⟩ := bind1S h
              obtain ⟨_, en45⟩ := arrN_some en45
              refine V2.y (i := 1) (Nx2.of (Z := Cls w [] [.obj b27 ((gl28.map I).flatten) 221, .mi b1 b23 (mrow (VI .i64) gl17) (mrow (VI .i64) l26) (some (x24, (VI .i64) x25)), .sl v16 4 1 (l17.map B)]) [] (by kernel_rfl) rfl (Zc.on (fun _ hw => hw.sel [0, 1, 3] (by decide) rfl) (Zc.fin (fun _ hw => hw)))) rfl rfl rfl (Y.loadArAll (q := 0) (row := I) (k := 1) ag221 sz221 rfl rfl (fun _ => rfl) (by rw [en45])) ?_
              refine V2.y (i := 2) (Nx2.of (Z := Cls w [] [.obj b27 ((gl28.map I).flatten) 221, .mi b1 b23 (mrow (VI .i64) gl17) (mrow (VI .i64) l26) (some (x24, (VI .i64) x25)), .sl v16 4 1 (l17.map B)]) [] (by kernel_rfl) rfl (Zc.on (fun _ hw => hw.sel [0, 1, 3] (by decide) rfl) (Zc.fin (fun _ hw => hw)))) rfl rfl rfl (Y.assign rfl) ?_
              refine V2.eff (i := 3) (by kernel_rfl) rfl ?_
              obtain ⟨_, en46, h⟩ := bind1S h
              obtain ⟨_, en46⟩ := arrN_some en46
              obtain ⟨_, en47, h⟩ := bind1S h
              obtain ⟨_, en47⟩ := arrN_some en47
              refine L.storeArW (i := 2) (row := I) (k := 1) en46 en47 rfl (fun _ => rfl) (plain_ints _) sz221 rfl rfl rfl ?_
              refine L.nil (E.toV2 (stC [] [] (Cls w [] [.obj b27 ((gl28.map I).flatten) 221, .mi b1 b23 (mrow (VI .i64) gl17) (mrow (VI .i64) l26) (some (x24, (VI .i64) x25)), .sl v16 4 1 (l17.map B)])) 3 (by kernel_rfl) (Sc.past rfl (Sc.stayD (fun _ hw => hw))) (Sc.atD (fun _ hw => hw.sel [0, 1, 3] (by decide) rfl)) ?_)
              refine V2.y (i := 4) (Nx2.of (Z := Cls w [] [.obj b27 ((gl28.map I).flatten) 221, .mi b1 b23 (mrow (VI .i64) gl17) (mrow (VI .i64) l26) (some (x24, (VI .i64) x25)), .sl v16 4 1 (l17.map B)]) [] (by kernel_rfl) rfl (Zc.fin (fun _ hw => hw))) rfl rfl rfl (Y.assign rfl) ?_
              refine V2.done (by kernel_rfl) ?_
              exact E.blockN (E.againJ ⟨x24, false, l26, gl28, rfl, rfl, by rw [hg4]; exact h⟩ (Nat.lt_succ_self _) ⟨rfl, rfl, rfl, rfl, rfl, rfl, rfl, trivial⟩ (fun _ hw => (hw.miNone (i := 1) rfl).sel [1, 2, 3] (by decide) rfl))
         ·
          rintro _ _ ⟨gx23, rfl, rfl, h⟩
          rw [m70_quirref_Pool_K7] at h
          refine W.seq (W.region (L.y rfl (Y.move rfl) ?_))
          refine L.y rfl (Y.assign rfl) ?_
          refine L.nil (E.thenN (W.ret (E.ret1 rfl rfl (fun w1 hw => ?_))))
          exact ⟨_, _, rfl, ⟨gx23, rfl, rfl, h⟩, hw⟩
        ·
         rintro _ _ ⟨gx22, rfl, rfl, h⟩
         rw [m70_quirref_Pool_K6] at h
         refine L.mapDel (i := 0) (g := (VI .i64)) (lm := gl17) Try.underlying160 Try.underlying3 rfl rfl rfl ?_
         refine L.nil (E.thenN (W.region (L.y rfl (Y.move rfl) ?_)))
         refine L.y rfl (Y.move rfl) ?_
         refine L.y rfl (Y.move rfl) ?_
         refine L.mapSet (i := 0) (g := (VI .i64)) (lm := (mdel gl17 gx22)) (v0 := gx16) Try.underlying160 Try.underlying3 rfl rfl rfl rfl ?_
         obtain ⟨l19, el19, h⟩ := bind1S h
         obtain rfl := Option.some.inj el19
         exact L.nil (E.blockN (E.joinJ ⟨v16, l17, mset (mdel gl17 gx22) x14 gx16, rfl, rfl, h⟩ ⟨rfl, rfl, rfl, rfl, rfl, rfl, rfl, rfl, trivial⟩ (fun _ hw => hw)))
       ·
        refine L.nil (E.thenN (W.condF rfl ?_))
        refine W.skip (E.thenN (W.region (L.y rfl (Y.move rfl) ?_)))
        refine L.y rfl (Y.move rfl) ?_
        refine L.y rfl (Y.move rfl) ?_
        refine L.mapSet (i := 2) (g := (VI .i64)) (lm := gl17) (v0 := gx16) Try.underlying160 Try.underlying3 rfl rfl rfl rfl ?_
        obtain ⟨l62, el62, h⟩ := bind1S h
        obtain rfl := Option.some.inj el62
        exact L.nil (E.blockN (E.joinJ ⟨v16, l17, mset gl17 x14 gx16, rfl, rfl, h⟩ ⟨rfl, rfl, rfl, rfl, rfl, rfl, rfl, rfl, trivial⟩ (fun _ hw => hw.sel [2, 0] (by decide) rfl)))
      ·
       replace h := iteT h
       refine W.seq (W.region (L.y rfl (Y.move rfl) ?_))
       refine L.y rfl (Y.move rfl) ?_
       refine L.litOne rfl Try.underlying54 el4 rfl rfl ?_
       intro b63
       refine L.appM (i := 2) (g := B) (l := gl15) (more := [true]) h rfl Try.underlying54 el4 rfl rfl rfl (fun w hw => As.at_ (hw.get (i := 0) rfl)) (plain_bools _) rfl ?_
       intro v64 l65 el65 h
       refine L.y rfl (Y.assign rfl) ?_
       refine L.nil (E.thenN (W.seq (W.seq (W.region (L.y rfl (Y.move rfl) ?_)))))
       refine L.nil (E.thenN (W.condT rfl ?_))
       refine W.seq (W.seq (W.region (L.y rfl (Y.move rfl) ?_)))
       refine L.ite h rfl (Y.eql rfl rfl) (fun c66 h => ?_) (fun c66 h => ?_)
       ·
        refine L.nil (E.thenN (W.condT rfl ?_))
        refine W.region (L.y rfl (Y.move rfl) ?_)
        refine L.y rfl (Y.move rfl) ?_
        refine L.y rfl (Y.move rfl) ?_
        refine L.mapSet (i := 2) (g := (VI .i64)) (lm := gl17) (v0 := gx16) Try.underlying160 Try.underlying3 rfl rfl rfl rfl ?_
        obtain ⟨l67, el67, h⟩ := bind1S h
        obtain rfl := Option.some.inj el67
        exact L.nil (E.thenN (W.exit (E.thenX (E.blockX (E.joinJ ⟨v64, l65, mset gl17 x14 gx16, rfl, rfl, h⟩ ⟨rfl, rfl, rfl, rfl, rfl, rfl, rfl, rfl, trivial⟩ (fun _ hw => hw.sel [2, 0] (by decide) rfl))))))
       ·
        refine L.nil (E.thenN (W.condF rfl ?_))
        exact W.skip (E.thenN (W.exit (E.thenX (E.blockX (E.joinJ ⟨v64, l65, gl17, rfl, rfl, h⟩ ⟨rfl, rfl, rfl, rfl, rfl, rfl, rfl, rfl, trivial⟩ (fun _ hw => hw.sel [2, 0] (by decide) rfl))))))
    ·
     rintro _ _ ⟨gv18, gl19, gl20, rfl, rfl, h⟩
     rw [m70_quirref_Pool_K4] at h
     refine W.region (L.m (V := fun x13 => .int .i64 x13) h rfl (Y.addM rfl rfl) (fun x13 ex13 h => ?_))
     refine L.y rfl (Y.move rfl) ?_
     exact L.nil (E.againJ ⟨gv18, gl19, x13, gl20, rfl, rfl, by rw [hg3]; exact h⟩ (Nat.lt_succ_self _) ⟨rfl, rfl, rfl, rfl, rfl, rfl, rfl, rfl, trivial⟩ (fun _ hw => hw))
   ·
    refine L.nil (E.thenN (W.seq (W.condF rfl ?_)))
    exact W.exit (E.thenX (E.KLX (E.blockX (E.joinJ ⟨gv14, gl15, gl17, rfl, rfl, h⟩ ⟨rfl, rfl, rfl, trivial⟩ (fun _ hw => hw)))))
  ·
   rintro _ _ ⟨gv1, gl2, gl3, rfl, rfl, h⟩
   rw [m70_quirref_Pool_K1] at h
   refine W.seq (W.region (L.y rfl (Y.assign rfl) ?_))
   refine L.nil (E.thenN (W.seqJ (fun gs D => ∃ (gv4 : Value) (gl5 : (List Int)), gs = [(9, gv1), (14, gv4)] ∧ D = Cls w [] [.sl gv1 4 1 (gl2.map B), .sl gv4 3 1 (gl5.map I)] ∧ m70_quirref_Pool_K2 gl2 gl5 = some r) ?_ ?_))
   ·
    refine W.seq (W.region (L.y rfl (Y.move rfl) ?_))
    refine L.y rfl (Y.lenM (g := I) (l := a2) Try.underlying24 rfl (fun w' hw => hA2.cls0 hw)) ?_
    refine L.y rfl (Y.move rfl) ?_
    refine L.nil (E.thenN (W.block (W.nilSl 3 1 ?_)))
    refine W.loopJ (fun m gs D => ∃ (gv6 : Value) (gl7 : (List Int)) (gx8 : Int), gs = [(8, .map (some b1)), (9, gv1), (14, gv6), (57, .int .i64 (a2.length : Int)), (58, .int .i64 gx8)] ∧ D = Cls w [] [.mp b1 (mrow (VI .i64) gl3), .sl gv1 4 1 (gl2.map B), .sl gv6 3 1 (gl7.map I)] ∧ m70_quirref_Pool_L1 a2 gl3 gl2 m gl7 gx8 = some r) ⟨.slice none 0 0, [], 0, rfl, rfl, h⟩ ⟨rfl, rfl, rfl, rfl, rfl, trivial⟩ (fun _ hw => hw.sel [1, 2, 0] (by decide) rfl) ?_
    rintro m _ _ ⟨gv6, gl7, gx8, rfl, rfl, h⟩
    rcases m with _ | m
    · rw [m70_quirref_Pool_L1] at h; cases h
    rw [m70_quirref_Pool_L1] at h
    generalize hg1 : m70_quirref_Pool_L1 a2 gl3 gl2 m = go1 at h
    rw [m70_quirref_Pool_L1B] at h
    refine W.seq (W.region (L.ite h rfl (Y.lss rfl rfl) (fun c2 h => ?_) (fun c2 h => ?_)))
    ·
     refine L.nil (E.thenN (W.seq (W.condT rfl ?_)))
     refine W.skip (E.thenN (W.seqJ (fun gs D => ∃ (gv9 : Value) (gl10 : (List Int)), gs = [(8, .map (some b1)), (9, gv1), (14, gv9), (57, .int .i64 (a2.length : Int)), (58, .int .i64 gx8)] ∧ D = Cls w [] [.mp b1 (mrow (VI .i64) gl3), .sl gv1 4 1 (gl2.map B), .sl gv9 3 1 (gl10.map I)] ∧ m70_quirref_Pool_K3 gx8 go1 gl10 = some r) ?_ ?_))
     ·
      refine W.block (W.seq (W.region (L.y rfl (Y.move rfl) ?_)))
      refine L.y rfl (Y.assign rfl) ?_
      refine L.nil (E.thenN (W.seq (W.region (L.y rfl (Y.move rfl) ?_))))
      refine L.rangeM (i := 0) (g := (VI .i64)) (lm := gl3) rfl Try.underlying160 rfl rfl ?_
      intro b4
      refine L.nil (E.thenN (W.block (W.loopJ (fun m gs D => ∃ (gv11 : Value) (gl12 : (List Int)) (gl13 : (List (Int × Int))), gs = [(8, .map (some b1)), (9, gv1), (14, gv11), (15, .int .i64 gx8), (57, .int .i64 (a2.length : Int)), (58, .int .i64 gx8), (62, pt b4 0)] ∧ D = Cls w [] [.mi b1 b4 (mrow (VI .i64) gl3) (mrow (VI .i64) gl13) none, .sl gv1 4 1 (gl2.map B), .sl gv11 3 1 (gl12.map I)] ∧ m70_quirref_Pool_L2 gx8 go1 m gl12 gl13 = some r) ⟨gv6, gl7, gl3, rfl, rfl, h⟩ ⟨rfl, rfl, rfl, rfl, rfl, rfl, rfl, trivial⟩ (fun _ hw => hw) ?_)))
      rintro m _ _ ⟨gv11, gl12, gl13, rfl, rfl, h⟩
      rcases m with _ | m
      · rw [m70_quirref_Pool_L2] at h; cases h
      rw [m70_quirref_Pool_L2] at h
      generalize hg2 : m70_quirref_Pool_L2 gx8 go1 m = go2 at h
      rw [m70_quirref_Pool_L2B] at h
      refine W.seq (W.region (L.nextM (i := 0) (g := (VI .i64)) (lm := gl3) (left := gl13) h rfl rfl rfl (fun h => ?_) (fun x5 x6 l7 h => ?_)))
      ·
       refine L.y rfl (Y.extract rfl rfl) ?_
       refine L.nil (E.thenN (W.seq (W.condF rfl ?_)))
       exact W.exit (E.thenX (E.KLX (E.blockX (E.blockN (E.joinJ ⟨gv11, gl12, rfl, rfl, h⟩ ⟨rfl, rfl, rfl, rfl, rfl, trivial⟩ (fun _ hw => hw))))))
      ·
       refine L.y rfl (Y.extract rfl rfl) ?_
       refine L.nil (E.thenN (W.seq (W.condT rfl ?_)))
       refine W.skip (E.thenN (W.block (W.seq (W.region (L.y rfl (Y.entryM (i := 0) (g := (VI .i64)) (lm := gl3) (k0 := x5) (v0 := x6) rfl rfl) ?_)))))
       refine L.y rfl (Y.extract rfl rfl) ?_
       refine L.y rfl (Y.extract rfl rfl) ?_
       refine L.y rfl (Y.assign rfl) ?_
       refine L.y rfl (Y.assign rfl) ?_
       refine L.nil (E.thenN (W.seq (W.region (L.y rfl (Y.move rfl) ?_))))
       refine L.y rfl (Y.move rfl) ?_
       refine L.ite h rfl (Y.eql rfl rfl) (fun c8 h => ?_) (fun c8 h => ?_)
       ·
        refine L.nil (E.thenN (W.condT rfl ?_))
        refine W.region (L.y rfl (Y.move rfl) ?_)
        refine L.y rfl (Y.move rfl) ?_
        refine L.litOne rfl Try.underlying24 el3 rfl rfl ?_
        intro b9
        refine L.appM (i := 3) (g := I) (l := gl12) (more := [x5]) h rfl Try.underlying24 el3 rfl rfl rfl (fun w hw => As.at_ (hw.get (i := 0) rfl)) (plain_ints _) rfl ?_
        intro v10 l11 el11 h
        refine L.y rfl (Y.assign rfl) ?_
        exact L.nil (E.blockN (E.againJ ⟨v10, l11, l7, rfl, rfl, by rw [hg2]; exact h⟩ (Nat.lt_succ_self _) ⟨rfl, rfl, rfl, rfl, rfl, rfl, rfl, trivial⟩ (fun _ hw => (hw.miNone (i := 2) rfl).sel [2, 3, 0] (by decide) rfl)))
       ·
        refine L.nil (E.thenN (W.condF rfl ?_))
        exact W.skip (E.blockN (E.againJ ⟨gv11, gl12, l7, rfl, rfl, by rw [hg2]; exact h⟩ (Nat.lt_succ_self _) ⟨rfl, rfl, rfl, rfl, rfl, rfl, rfl, trivial⟩ (fun _ hw => (hw.miNone (i := 0) rfl))))
     ·
      rintro _ _ ⟨gv9, gl10, rfl, rfl, h⟩
      rw [m70_quirref_Pool_K3] at h
      refine W.region (L.m (V := fun x3 => .int .i64 x3) h rfl (Y.addM rfl rfl) (fun x3 ex3 h => ?_))
      refine L.y rfl (Y.move rfl) ?_
      exact L.nil (E.againJ ⟨gv9, gl10, x3, rfl, rfl, by rw [hg1]; exact h⟩ (Nat.lt_succ_self _) ⟨rfl, rfl, rfl, rfl, rfl, trivial⟩ (fun _ hw => hw))
    ·
     refine L.nil (E.thenN (W.seq (W.condF rfl ?_)))
     exact W.exit (E.thenX (E.KLX (E.blockX (E.joinJ ⟨gv6, gl7, rfl, rfl, h⟩ ⟨rfl, rfl, trivial⟩ (fun _ hw => hw.sel [1, 2] (by decide) rfl)))))
   ·
    rintro _ _ ⟨gv4, gl5, rfl, rfl, h⟩
    rw [m70_quirref_Pool_K2] at h
    refine W.seq (W.region (L.y rfl (Y.move rfl) ?_))
    refine L.y rfl (Y.move rfl) ?_
    refine L.y rfl (Y.assign rfl) ?_
    refine L.y rfl (Y.assign rfl) ?_
    refine L.nil (E.thenN (W.ret (E.ret2 rfl rfl rfl (fun w1 hw => ?_))))
    obtain rfl := Option.some.inj h
    exact ⟨_, _, rfl, ⟨_, _, rfl, rfl⟩, hw⟩
set_option maxRecDepth 100000 in
set_option maxHeartbeats 8000000 in
theorem w42_slices_Equal_bool (a0 : (List Bool)) (a1 : (List Bool)) (u0 : Value) (u1 : Value) (w : World) (r : Bool) (h : m42_slices_Equal_bool a0 a1 = some r) (hA0 : At w u0 1 (a0.map B)) (hA1 : At w u1 1 (a1.map B)) : Does Try.prog 42 [u0, u1] w fun u m => u = .bool r ∧ m = [] := by
  rw [m42_slices_Equal_bool] at h
  refine body (n := 26) Try.func42 rfl rfl rfl (Cls.refl w) ?_
  refine W.seq (W.region (L.y rfl (Y.assign rfl) ?_))
  refine L.nil (E.thenN (W.seqJ (fun gs D => gs = [(0, u0), (1, u1)] ∧ D = Cls w [] [] ∧ m42_slices_Equal_bool_K1 a0 a1 = some r) ?_ ?_))
  ·
   refine W.seq (W.region (L.y rfl (Y.move rfl) ?_))
   refine L.y rfl (Y.lenM (g := B) (l := a0) Try.underlying54 rfl (fun w' hw => hA0.cls0 hw)) ?_
   refine L.y rfl (Y.move rfl) ?_
   refine L.y rfl (Y.lenM (g := B) (l := a1) Try.underlying54 rfl (fun w' hw => hA1.cls0 hw)) ?_
   refine L.ite h rfl (Y.neq rfl rfl) (fun c6 h => ?_) (fun c6 h => ?_)
   ·
    refine L.nil (E.thenN (W.condT rfl ?_))
    refine W.seq (W.region (L.y rfl (Y.assign rfl) ?_))
    refine L.nil (E.thenN (W.ret (E.KSR (E.ret1 rfl rfl (fun w1 hw => ?_)))))
    obtain rfl := Option.some.inj h
    exact ⟨_, _, rfl, ⟨rfl, rfl⟩, hw⟩
   ·
    refine L.nil (E.thenN (W.condF rfl ?_))
    exact W.skip (E.joinJ ⟨rfl, rfl, h⟩ ⟨rfl, rfl, trivial⟩ (fun _ hw => hw))
  ·
   rintro _ _ ⟨rfl, rfl, h⟩
   rw [m42_slices_Equal_bool_K1] at h
   refine W.seqJ (fun gs D => gs = [] ∧ D = Cls w [] [] ∧ m42_slices_Equal_bool_K2 = some r) ?_ ?_
   ·
    refine W.seq (W.region (L.y rfl (Y.move rfl) ?_))
    refine L.y rfl (Y.lenM (g := B) (l := a0) Try.underlying54 rfl (fun w' hw => hA0.cls0 hw)) ?_
    refine L.y rfl (Y.move rfl) ?_
    refine L.nil (E.thenN (W.block (W.loopJ (fun m gs D => ∃ (gx1 : Int), gs = [(0, u0), (1, u1), (12, .int .i64 (a0.length : Int)), (13, .int .i64 gx1)] ∧ D = Cls w [] [] ∧ m42_slices_Equal_bool_L1 a0 a1 m gx1 = some r) ⟨0, rfl, rfl, h⟩ ⟨rfl, rfl, rfl, rfl, trivial⟩ (fun _ hw => hw) ?_)))
    rintro m _ _ ⟨gx1, rfl, rfl, h⟩
    rcases m with _ | m
    · rw [m42_slices_Equal_bool_L1] at h; cases h
    rw [m42_slices_Equal_bool_L1] at h
    generalize hg1 : m42_slices_Equal_bool_L1 a0 a1 m = go1 at h
    rw [m42_slices_Equal_bool_L1B] at h
    refine W.seq (W.region (L.ite h rfl (Y.lss rfl rfl) (fun c1 h => ?_) (fun c1 h => ?_)))
    ·
     refine L.nil (E.thenN (W.seq (W.condT rfl ?_)))
     refine W.skip (E.thenN (W.seq (W.block (W.seq (W.region (L.y rfl (Y.move rfl) ?_))))))
     refine L.y rfl (Y.assign rfl) ?_
     refine L.nil (E.thenN (W.seq (W.quietC mixed (by kernel_rfl) (fun _ hw => hw.drew) (fun hC => ?_))))
     refine U.y rfl (Y.move rfl) ?_
     refine U.y rfl (Y.move rfl) ?_
     refine U.m (V := fun _ => el u0 (gx1.toNat * 1)) h rfl (Y.indexM (g := B) (l := a0) Try.underlying54 sz4 rfl rfl (fun w' hw => hA0.cls0 hw)) (fun x2 ex2 h => ?_)
     refine U.y rfl (Y.loadE1 (u := .bool x2) ag4 rfl (fun w' hw => hA0.cls0 hw) (idx_map ex2)) ?_
     refine U.y rfl (Y.move rfl) ?_
     refine U.y rfl (Y.move rfl) ?_
     refine U.m (V := fun _ => el u1 (gx1.toNat * 1)) h rfl (Y.indexM (g := B) (l := a1) Try.underlying54 sz4 rfl rfl (fun w' hw => hA1.cls0 hw)) (fun x3 ex3 h => ?_)
     refine U.y rfl (Y.loadE1 (u := .bool x3) ag4 rfl (fun w' hw => hA1.cls0 hw) (idx_map ex3)) ?_
     refine U.iteB h rfl (Y.neqB Try.underlying4 rfl rfl) (fun c4 h => ?_) (fun c4 h => ?_)
     ·
      refine U.nil (E.thenN (W.condT rfl ?_))
      refine W.seq (W.region (L.y rfl (Y.assign rfl) ?_))
      refine L.nil (E.thenN (W.ret (E.blockR (E.thenR (E.KLR (E.blockR (E.KSR (E.ret1 rfl rfl (fun w1 hw => ?_)))))))))
      obtain rfl := Option.some.inj h
      exact ⟨_, _, rfl, ⟨rfl, rfl⟩, hw⟩
     ·
      refine U.nil (E.thenN (W.condF rfl ?_))
      refine W.skip (E.blockN (E.thenN (W.region (L.m (V := fun x5 => .int .i64 x5) h rfl (Y.addM rfl rfl) (fun x5 ex5 h => ?_)))))
      refine L.y rfl (Y.move rfl) ?_
      exact L.nil (E.againJ ⟨x5, rfl, rfl, by rw [hg1]; exact h⟩ (Nat.lt_succ_self _) ⟨rfl, rfl, rfl, rfl, trivial⟩ (fun _ hw => hw))
    ·
     refine L.nil (E.thenN (W.seq (W.condF rfl ?_)))
     exact W.exit (E.thenX (E.KLX (E.blockX (E.joinJ ⟨rfl, rfl, h⟩ trivial (fun _ hw => hw)))))
   ·
    rintro _ _ ⟨rfl, rfl, h⟩
    rw [m42_slices_Equal_bool_K2] at h
    refine W.seq (W.region (L.y rfl (Y.assign rfl) ?_))
    refine L.nil (E.thenN (W.ret (E.ret1 rfl rfl (fun w1 hw => ?_))))
    obtain rfl := Option.some.inj h
    exact ⟨_, _, rfl, ⟨rfl, rfl⟩, hw⟩
set_option maxRecDepth 100000 in
set_option maxHeartbeats 8000000 in
theorem w71_slices_Equal_int (a0 : (List Int)) (a1 : (List Int)) (u0 : Value) (u1 : Value) (w : World) (r : Bool) (h : m71_slices_Equal_int a0 a1 = some r) (hA0 : At w u0 1 (a0.map I)) (hA1 : At w u1 1 (a1.map I)) : Does Try.prog 71 [u0, u1] w fun u m => u = .bool r ∧ m = [] := by
  rw [m71_slices_Equal_int] at h
  refine body (n := 26) Try.func71 rfl rfl rfl (Cls.refl w) ?_
  refine W.seq (W.region (L.y rfl (Y.assign rfl) ?_))
  refine L.nil (E.thenN (W.seqJ (fun gs D => gs = [(0, u0), (1, u1)] ∧ D = Cls w [] [] ∧ m71_slices_Equal_int_K1 a0 a1 = some r) ?_ ?_))
  ·
   refine W.seq (W.region (L.y rfl (Y.move rfl) ?_))
   refine L.y rfl (Y.lenM (g := I) (l := a0) Try.underlying24 rfl (fun w' hw => hA0.cls0 hw)) ?_
   refine L.y rfl (Y.move rfl) ?_
   refine L.y rfl (Y.lenM (g := I) (l := a1) Try.underlying24 rfl (fun w' hw => hA1.cls0 hw)) ?_
   refine L.ite h rfl (Y.neq rfl rfl) (fun c6 h => ?_) (fun c6 h => ?_)
   ·
    refine L.nil (E.thenN (W.condT rfl ?_))
    refine W.seq (W.region (L.y rfl (Y.assign rfl) ?_))
    refine L.nil (E.thenN (W.ret (E.KSR (E.ret1 rfl rfl (fun w1 hw => ?_)))))
    obtain rfl := Option.some.inj h
    exact ⟨_, _, rfl, ⟨rfl, rfl⟩, hw⟩
   ·
    refine L.nil (E.thenN (W.condF rfl ?_))
    exact W.skip (E.joinJ ⟨rfl, rfl, h⟩ ⟨rfl, rfl, trivial⟩ (fun _ hw => hw))
  ·
   rintro _ _ ⟨rfl, rfl, h⟩
   rw [m71_slices_Equal_int_K1] at h
   refine W.seqJ (fun gs D => gs = [] ∧ D = Cls w [] [] ∧ m71_slices_Equal_int_K2 = some r) ?_ ?_
   ·
    refine W.seq (W.region (L.y rfl (Y.move rfl) ?_))
    refine L.y rfl (Y.lenM (g := I) (l := a0) Try.underlying24 rfl (fun w' hw => hA0.cls0 hw)) ?_
    refine L.y rfl (Y.move rfl) ?_
    refine L.nil (E.thenN (W.block (W.loopJ (fun m gs D => ∃ (gx1 : Int), gs = [(0, u0), (1, u1), (12, .int .i64 (a0.length : Int)), (13, .int .i64 gx1)] ∧ D = Cls w [] [] ∧ m71_slices_Equal_int_L1 a0 a1 m gx1 = some r) ⟨0, rfl, rfl, h⟩ ⟨rfl, rfl, rfl, rfl, trivial⟩ (fun _ hw => hw) ?_)))
    rintro m _ _ ⟨gx1, rfl, rfl, h⟩
    rcases m with _ | m
    · rw [m71_slices_Equal_int_L1] at h; cases h
    rw [m71_slices_Equal_int_L1] at h
    generalize hg1 : m71_slices_Equal_int_L1 a0 a1 m = go1 at h
    rw [m71_slices_Equal_int_L1B] at h
    refine W.seq (W.region (L.ite h rfl (Y.lss rfl rfl) (fun c1 h => ?_) (fun c1 h => ?_)))
    ·
     refine L.nil (E.thenN (W.seq (W.condT rfl ?_)))
     refine W.skip (E.thenN (W.seq (W.block (W.seq (W.region (L.y rfl (Y.move rfl) ?_))))))
     refine L.y rfl (Y.assign rfl) ?_
     refine L.nil (E.thenN (W.seq (W.quietC mixed (by kernel_rfl) (fun _ hw => hw.drew) (fun hC => ?_))))
     refine U.y rfl (Y.move rfl) ?_
     refine U.y rfl (Y.move rfl) ?_
     refine U.m (V := fun _ => el u0 (gx1.toNat * 1)) h rfl (Y.indexM (g := I) (l := a0) Try.underlying24 sz3 rfl rfl (fun w' hw => hA0.cls0 hw)) (fun x2 ex2 h => ?_)
     refine U.y rfl (Y.loadE1 (u := .int .i64 x2) ag3 rfl (fun w' hw => hA0.cls0 hw) (idx_map ex2)) ?_
     refine U.y rfl (Y.move rfl) ?_
     refine U.y rfl (Y.move rfl) ?_
     refine U.m (V := fun _ => el u1 (gx1.toNat * 1)) h rfl (Y.indexM (g := I) (l := a1) Try.underlying24 sz3 rfl rfl (fun w' hw => hA1.cls0 hw)) (fun x3 ex3 h => ?_)
     refine U.y rfl (Y.loadE1 (u := .int .i64 x3) ag3 rfl (fun w' hw => hA1.cls0 hw) (idx_map ex3)) ?_
     refine U.ite h rfl (Y.neq rfl rfl) (fun c4 h => ?_) (fun c4 h => ?_)
     ·
      refine U.nil (E.thenN (W.condT rfl ?_))
      refine W.seq (W.region (L.y rfl (Y.assign rfl) ?_))
      refine L.nil (E.thenN (W.ret (E.blockR (E.thenR (E.KLR (E.blockR (E.KSR (E.ret1 rfl rfl (fun w1 hw => ?_)))))))))
      obtain rfl := Option.some.inj h
      exact ⟨_, _, rfl, ⟨rfl, rfl⟩, hw⟩
     ·
      refine U.nil (E.thenN (W.condF rfl ?_))
      refine W.skip (E.blockN (E.thenN (W.region (L.m (V := fun x5 => .int .i64 x5) h rfl (Y.addM rfl rfl) (fun x5 ex5 h => ?_)))))
      refine L.y rfl (Y.move rfl) ?_
      exact L.nil (E.againJ ⟨x5, rfl, rfl, by rw [hg1]; exact h⟩ (Nat.lt_succ_self _) ⟨rfl, rfl, rfl, rfl, trivial⟩ (fun _ hw => hw))
    ·
     refine L.nil (E.thenN (W.seq (W.condF rfl ?_)))
     exact W.exit (E.thenX (E.KLX (E.blockX (E.joinJ ⟨rfl, rfl, h⟩ trivial (fun _ hw => hw)))))
   ·
    rintro _ _ ⟨rfl, rfl, h⟩
    rw [m71_slices_Equal_int_K2] at h
    refine W.seq (W.region (L.y rfl (Y.assign rfl) ?_))
    refine L.nil (E.thenN (W.ret (E.ret1 rfl rfl (fun w1 hw => ?_))))
    obtain rfl := Option.some.inj h
    exact ⟨_, _, rfl, ⟨rfl, rfl⟩, hw⟩
theorem m11_quirlaw_PoolSays_fx_e (x : Int) (a0 : Int) (a1 : (List Int)) (r : ((List Bool) × (List Int) × Int)) (h : m11_quirlaw_PoolSays_fx x a0 a1 = some r) : entB Try.prog x.toNat = true := by
  unfold m11_quirlaw_PoolSays_fx at h
  split at h
  · rename_i hx; subst hx; exact en65
  split at h
  · rename_i hx; subst hx; exact en66
  split at h
  · rename_i hx; subst hx; exact en67
  split at h
  · rename_i hx; subst hx; exact en68
  cases h
theorem m11_quirlaw_PoolSays_fx_w (x : Int) (a0 : Int) (a1 : (List Int)) (u1 : Value) (w : World) (r : ((List Bool) × (List Int) × Int)) (h : m11_quirlaw_PoolSays_fx x a0 a1 = some r) (hA1 : At w u1 1 (a1.map I)) : Does Try.prog x.toNat [.int .i64 a0, u1] w fun u m => ∃ v0 v1, u = .tuple #[v0, v1, .int .i64 r.2.2] ∧ m = [.sl v0 4 1 (r.1.map B), .sl v1 3 1 (r.2.1.map I)] := by
  unfold m11_quirlaw_PoolSays_fx at h
  split at h
  · rename_i hx; subst hx; exact w65_pool_Fifo a0 a1 u1 w r h hA1
  split at h
  · rename_i hx; subst hx; exact w66_pool_Lru a0 a1 u1 w r h hA1
  split at h
  · rename_i hx; subst hx; exact w67_pool_Best a0 a1 u1 w r h hA1
  split at h
  · rename_i hx; subst hx; exact w68_pool_Clock a0 a1 u1 w r h hA1
  cases h
set_option maxRecDepth 100000 in
set_option maxHeartbeats 8000000 in
theorem w11_quirlaw_PoolSays (a0 : Int) (a1 : (List Int)) (u1 : Value) (w : World) (r : Bool) (h : m11_quirlaw_PoolSays a0 a1 = some r) (hA1 : At w u1 1 (a1.map I)) : Does Try.prog 11 [.int .i64 a0, u1] w fun u m => u = .bool r ∧ m = [] := by
  rw [m11_quirlaw_PoolSays] at h
  refine body (n := 85) Try.func11 rfl rfl rfl (Cls.refl w) ?_
  refine W.seq (W.region (L.y rfl (Y.assign rfl) ?_))
  refine L.nil (E.thenN (W.seq (W.region (L.y rfl (Y.assign rfl) ?_))))
  refine L.nil (E.thenN (W.seqJ (fun gs D => ∃ (gx1 : Int), gs = [(0, .int .i64 a0), (1, u1), (5, .int .i64 gx1)] ∧ D = Cls w [] [] ∧ m11_quirlaw_PoolSays_K1 a0 a1 gx1 = some r) ?_ ?_))
  ·
   refine W.seq (W.region (L.y rfl (Y.move rfl) ?_))
   refine L.ite h rfl (Y.lss rfl rfl) (fun c39 h => ?_) (fun c39 h => ?_)
   ·
    refine L.y rfl (Y.move rfl) ?_
    refine L.pass rfl rfl (by nofun) ?_
    refine L.pass rfl rfl (by nofun) ?_
    refine L.y rfl (Y.pickT rfl rfl) ?_
    refine L.nil (E.thenN (W.condT rfl ?_))
    refine W.region (L.y rfl (Y.assign rfl) ?_)
    exact L.nil (E.joinJ ⟨1, rfl, rfl, h⟩ ⟨rfl, rfl, rfl, trivial⟩ (fun _ hw => hw))
   ·
    refine L.y rfl (Y.move rfl) ?_
    refine L.take rfl (L.y rfl (Y.move rfl) ?_)
    refine L.take rfl (L.ite h rfl (Y.gtr rfl rfl) (fun c40 h => ?_) (fun c40 h => ?_))
    ·
     refine L.y rfl (Y.pickF rfl rfl) ?_
     refine L.nil (E.thenN (W.condT rfl ?_))
     refine W.region (L.y rfl (Y.assign rfl) ?_)
     exact L.nil (E.joinJ ⟨1, rfl, rfl, h⟩ ⟨rfl, rfl, rfl, trivial⟩ (fun _ hw => hw))
    ·
     refine L.y rfl (Y.pickF rfl rfl) ?_
     refine L.nil (E.thenN (W.condF rfl ?_))
     refine W.seq (W.region (L.y rfl (Y.move rfl) ?_))
     refine L.y rfl (Y.lenM (g := I) (l := a1) Try.underlying24 rfl (fun w' hw => hA1.cls0 hw)) ?_
     refine L.ite h rfl (Y.gtr rfl rfl) (fun c41 h => ?_) (fun c41 h => ?_)
     ·
      refine L.nil (E.thenN (W.condT rfl ?_))
      refine W.region (L.y rfl (Y.assign rfl) ?_)
      exact L.nil (E.joinJ ⟨2, rfl, rfl, h⟩ ⟨rfl, rfl, rfl, trivial⟩ (fun _ hw => hw))
     ·
      refine L.nil (E.thenN (W.condF rfl ?_))
      exact W.skip (E.joinJ ⟨0, rfl, rfl, h⟩ ⟨rfl, rfl, rfl, trivial⟩ (fun _ hw => hw))
  ·
   rintro _ _ ⟨gx1, rfl, rfl, h⟩
   rw [m11_quirlaw_PoolSays_K1] at h
   refine W.seqJ (fun gs D => gs = [(0, .int .i64 a0), (1, u1), (5, .int .i64 gx1)] ∧ D = Cls w [] [] ∧ m11_quirlaw_PoolSays_K2 a0 a1 gx1 = some r) ?_ ?_
   ·
    refine W.seq (W.region (L.y rfl (Y.move rfl) ?_))
    refine L.y rfl (Y.move rfl) ?_
    obtain ⟨x36, e37, h⟩ := bind1S h
    refine L.y rfl (Y.does en64 rfl (fun w' hw => (w64_pool_Check a0 a1 u1 w' _ e37 (hA1.cls0 hw)).mono (fun _ _ h => h.1))) ?_
    refine L.y rfl (Y.move rfl) ?_
    refine L.ite h rfl (Y.neq rfl rfl) (fun c38 h => ?_) (fun c38 h => ?_)
    ·
     refine L.nil (E.thenN (W.condT rfl ?_))
     refine W.seq (W.region (L.y rfl (Y.assign rfl) ?_))
     refine L.nil (E.thenN (W.ret (E.KSR (E.ret1 rfl rfl (fun w1 hw => ?_)))))
     obtain rfl := Option.some.inj h
     exact ⟨_, _, rfl, ⟨rfl, rfl⟩, hw⟩
    ·
     refine L.nil (E.thenN (W.condF rfl ?_))
     exact W.skip (E.joinJ ⟨rfl, rfl, h⟩ ⟨rfl, rfl, rfl, trivial⟩ (fun _ hw => hw))
   ·
    rintro _ _ ⟨rfl, rfl, h⟩
    rw [m11_quirlaw_PoolSays_K2] at h
    refine W.seqJ (fun gs D => gs = [] ∧ D = Cls w [] [] ∧ m11_quirlaw_PoolSays_K3 = some r) ?_ ?_
    ·
     refine W.seq (W.region (L.makeMap rfl ?_))
     intro b1
     refine L.mapIns (i := 0) (gg := VF) (lm := []) (v0 := (65 : Int)) Try.underlying103 Try.underlying3 rfl rfl rfl rfl ?_
     obtain ⟨l2, el2, h⟩ := bind1S h
     obtain rfl := Option.some.inj el2
     refine L.mapIns (i := 0) (gg := VF) (lm := mset [] 0 (65 : Int)) (v0 := (66 : Int)) Try.underlying103 Try.underlying3 rfl rfl rfl rfl ?_
     obtain ⟨l3, el3, h⟩ := bind1S h
     obtain rfl := Option.some.inj el3
     refine L.mapIns (i := 0) (gg := VF) (lm := mset (mset [] 0 (65 : Int)) 1 (66 : Int)) (v0 := (67 : Int)) Try.underlying103 Try.underlying3 rfl rfl rfl rfl ?_
     obtain ⟨l4, el4, h⟩ := bind1S h
     obtain rfl := Option.some.inj el4
     refine L.mapIns (i := 0) (gg := VF) (lm := mset (mset (mset [] 0 (65 : Int)) 1 (66 : Int)) 2 (67 : Int)) (v0 := (68 : Int)) Try.underlying103 Try.underlying3 rfl rfl rfl rfl ?_
     obtain ⟨l5, el5, h⟩ := bind1S h
     obtain rfl := Option.some.inj el5
     refine L.y rfl (Y.move rfl) ?_
     refine L.rangeM (i := 0) (g := VF) (lm := mset (mset (mset (mset [] 0 (65 : Int)) 1 (66 : Int)) 2 (67 : Int)) 3 (68 : Int)) rfl Try.underlying103 rfl rfl ?_
     intro b6
     refine L.nil (E.thenN (W.block (W.loopJ (fun m gs D => ∃ (gl2 : (List (Int × Int))), gs = [(0, .int .i64 a0), (1, u1), (5, .int .i64 gx1), (29, pt b6 0)] ∧ D = Cls w [] [.mi b1 b6 (mrow VF (mset (mset (mset (mset [] 0 (65 : Int)) 1 (66 : Int)) 2 (67 : Int)) 3 (68 : Int))) (mrow VF gl2) none] ∧ m11_quirlaw_PoolSays_L1 a0 a1 gx1 m gl2 = some r) ⟨mset (mset (mset (mset [] 0 (65 : Int)) 1 (66 : Int)) 2 (67 : Int)) 3 (68 : Int), rfl, rfl, h⟩ ⟨rfl, rfl, rfl, rfl, trivial⟩ (fun _ hw => hw) ?_)))
     rintro m _ _ ⟨gl2, rfl, rfl, h⟩
     rcases m with _ | m
     · rw [m11_quirlaw_PoolSays_L1] at h; cases h
     rw [m11_quirlaw_PoolSays_L1] at h
     generalize hg1 : m11_quirlaw_PoolSays_L1 a0 a1 gx1 m = go1 at h
     rw [m11_quirlaw_PoolSays_L1B] at h
     refine W.seq (W.region (L.nextM (i := 0) (g := VF) (lm := mset (mset (mset (mset [] 0 (65 : Int)) 1 (66 : Int)) 2 (67 : Int)) 3 (68 : Int)) (left := gl2) h rfl rfl rfl (fun h => ?_) (fun x7 x8 l9 h => ?_)))
     ·
      refine L.y rfl (Y.extract rfl rfl) ?_
      refine L.nil (E.thenN (W.seq (W.condF rfl ?_)))
      exact W.exit (E.thenX (E.KLX (E.blockX (E.joinJ ⟨rfl, rfl, h⟩ trivial (fun _ hw => hw.sel [] (by decide) rfl)))))
     ·
      refine L.y rfl (Y.extract rfl rfl) ?_
      refine L.nil (E.thenN (W.seq (W.condT rfl ?_)))
      refine W.skip (E.thenN (W.block (W.seq (W.region (L.y rfl (Y.entryM (i := 0) (g := VF) (lm := mset (mset (mset (mset [] 0 (65 : Int)) 1 (66 : Int)) 2 (67 : Int)) 3 (68 : Int)) (k0 := x7) (v0 := x8) rfl rfl) ?_)))))
      refine L.y rfl (Y.extract rfl rfl) ?_
      refine L.y rfl (Y.extract rfl rfl) ?_
      refine L.y rfl (Y.assign rfl) ?_
      refine L.y rfl (Y.assign rfl) ?_
      refine L.nil (E.thenN (W.seq (W.region (L.y rfl (Y.move rfl) ?_))))
      refine L.y rfl (Y.move rfl) ?_
      refine L.y rfl (Y.move rfl) ?_
      obtain ⟨l10, l12, x14, e15, h⟩ := bind3S h
      refine L.doesV (xi := x8) rfl (m11_quirlaw_PoolSays_fx_e x8 a0 a1 _ e15) rfl rfl (fun w' hw => m11_quirlaw_PoolSays_fx_w x8 a0 a1 u1 w' _ e15 (hA1.cls0 hw)) ?_
      rintro _ _ ⟨v11, v13, rfl, rfl⟩
      refine L.y rfl (Y.move rfl) ?_
      refine L.y rfl (Y.extract rfl rfl) ?_
      refine L.y rfl (Y.extract rfl rfl) ?_
      refine L.y rfl (Y.extract rfl rfl) ?_
      refine L.y rfl (Y.assign rfl) ?_
      refine L.y rfl (Y.assign rfl) ?_
      refine L.y rfl (Y.assign rfl) ?_
      refine L.nil (E.thenN (W.seqJ (fun gs D => gs = [(0, .int .i64 a0), (1, u1), (5, .int .i64 gx1), (6, .int .i64 x7), (8, v11), (9, v13), (10, .int .i64 x14), (29, pt b6 0)] ∧ D = Cls w [] [.mi b1 b6 (mrow VF (mset (mset (mset (mset [] 0 (65 : Int)) 1 (66 : Int)) 2 (67 : Int)) 3 (68 : Int))) (mrow VF l9) (some (x7, VF x8)), .sl v11 4 1 (l10.map B), .sl v13 3 1 (l12.map I)] ∧ m11_quirlaw_PoolSays_K4 a0 a1 x7 l10 l12 x14 go1 l9 = some r) ?_ ?_))
      ·
       refine W.seq (W.region (L.y rfl (Y.move rfl) ?_))
       refine L.ite h rfl (Y.neq rfl rfl) (fun c32 h => ?_) (fun c32 h => ?_)
       ·
        refine L.nil (E.thenN (W.condT rfl ?_))
        refine W.seq (W.seq (W.region (L.y rfl (Y.move rfl) ?_)))
        refine L.y rfl (Y.lenM (g := B) (l := l10) Try.underlying54 rfl (fun w hw => As.at_ (hw.get (i := 0) rfl))) ?_
        refine L.y rfl (Y.move rfl) ?_
        refine L.y rfl (Y.lenM (g := I) (l := l12) Try.underlying24 rfl (fun w hw => As.at_ (hw.get (i := 1) rfl))) ?_
        refine L.m (V := fun x33 => .int .i64 x33) h rfl (Y.addM rfl rfl) (fun x33 ex33 h => ?_)
        refine L.ite h rfl (Y.gtr rfl rfl) (fun c34 h => ?_) (fun c34 h => ?_)
        ·
         refine L.y rfl (Y.move rfl) ?_
         refine L.pass rfl rfl (by nofun) ?_
         refine L.pass rfl rfl (by nofun) ?_
         refine L.pass rfl rfl (by nofun) ?_
         refine L.y rfl (Y.pickT rfl rfl) ?_
         refine L.nil (E.thenN (W.condT rfl ?_))
         refine W.seq (W.region (L.y rfl (Y.assign rfl) ?_))
         refine L.nil (E.thenN (W.ret (E.thenR (E.KSR (E.blockR (E.KLR (E.blockR (E.KSR (E.ret1 rfl rfl (fun w1 hw => ?_))))))))))
         obtain rfl := Option.some.inj h
         exact ⟨_, _, rfl, ⟨rfl, rfl⟩, hw.sel [] (by decide) rfl⟩
        ·
         refine L.y rfl (Y.move rfl) ?_
         refine L.take rfl (L.y rfl (Y.move rfl) ?_)
         refine L.take rfl (L.y rfl (Y.move rfl) ?_)
         refine L.take rfl (L.ite h rfl (Y.neq rfl rfl) (fun c35 h => ?_) (fun c35 h => ?_))
         ·
          refine L.y rfl (Y.pickF rfl rfl) ?_
          refine L.nil (E.thenN (W.condT rfl ?_))
          refine W.seq (W.region (L.y rfl (Y.assign rfl) ?_))
          refine L.nil (E.thenN (W.ret (E.thenR (E.KSR (E.blockR (E.KLR (E.blockR (E.KSR (E.ret1 rfl rfl (fun w1 hw => ?_))))))))))
          obtain rfl := Option.some.inj h
          exact ⟨_, _, rfl, ⟨rfl, rfl⟩, hw.sel [] (by decide) rfl⟩
         ·
          refine L.y rfl (Y.pickF rfl rfl) ?_
          refine L.nil (E.thenN (W.condF rfl ?_))
          exact W.skip (E.thenN (W.exit (E.KSX (E.blockX (E.againJ ⟨l9, rfl, rfl, by rw [hg1]; exact h⟩ (Nat.lt_succ_self _) ⟨rfl, rfl, rfl, rfl, trivial⟩ (fun _ hw => (hw.miNone (i := 2) rfl).sel [2] (by decide) rfl))))))
       ·
        refine L.nil (E.thenN (W.condF rfl ?_))
        exact W.skip (E.joinJ ⟨rfl, rfl, h⟩ ⟨rfl, rfl, rfl, rfl, rfl, rfl, rfl, rfl, trivial⟩ (fun _ hw => hw.sel [2, 0, 1] (by decide) rfl))
      ·
       rintro _ _ ⟨rfl, rfl, h⟩
       rw [m11_quirlaw_PoolSays_K4] at h
       refine W.seq (W.region (L.y rfl (Y.move rfl) ?_))
       refine L.y rfl (Y.move rfl) ?_
       obtain ⟨l16, l18, e20, h⟩ := bind2S h
       refine L.does rfl en69 rfl (fun w' hw => w69_quirref_Clock a0 a1 u1 w' _ e20 (hA1.cls0 hw)) ?_
       rintro _ _ ⟨v17, v19, rfl, rfl⟩
       refine L.y rfl (Y.move rfl) ?_
       refine L.y rfl (Y.extract rfl rfl) ?_
       refine L.y rfl (Y.extract rfl rfl) ?_
       refine L.y rfl (Y.assign rfl) ?_
       refine L.y rfl (Y.assign rfl) ?_
       refine L.nil (E.thenN (W.seqJ (fun gs D => ∃ (gv3 : Value) (gl4 : (List Bool)) (gv5 : Value) (gl6 : (List Int)), gs = [(0, .int .i64 a0), (1, u1), (5, .int .i64 gx1), (8, v11), (9, v13), (10, .int .i64 x14), (11, gv3), (12, gv5), (29, pt b6 0)] ∧ D = Cls w [] [.mi b1 b6 (mrow VF (mset (mset (mset (mset [] 0 (65 : Int)) 1 (66 : Int)) 2 (67 : Int)) 3 (68 : Int))) (mrow VF l9) (some (x7, VF x8)), .sl v11 4 1 (l10.map B), .sl v13 3 1 (l12.map I), .sl gv3 4 1 (gl4.map B), .sl gv5 3 1 (gl6.map I)] ∧ m11_quirlaw_PoolSays_K5 l10 l12 x14 go1 l9 gl4 gl6 = some r) ?_ ?_))
       ·
        refine W.seq (W.region (L.y rfl (Y.move rfl) ?_))
        refine L.ite h rfl (Y.lss rfl rfl) (fun c26 h => ?_) (fun c26 h => ?_)
        ·
         refine L.nil (E.thenN (W.condT rfl ?_))
         refine W.region (L.y rfl (Y.move rfl) ?_)
         refine L.y rfl (Y.move rfl) ?_
         refine L.y rfl (Y.move rfl) ?_
         obtain ⟨l27, l29, e31, h⟩ := bind2S h
         refine L.does rfl en70 rfl (fun w' hw => w70_quirref_Pool x7 a0 a1 u1 w' _ e31 (hA1.cls0 hw)) ?_
         rintro _ _ ⟨v28, v30, rfl, rfl⟩
         refine L.y rfl (Y.move rfl) ?_
         refine L.y rfl (Y.extract rfl rfl) ?_
         refine L.y rfl (Y.extract rfl rfl) ?_
         refine L.y rfl (Y.assign rfl) ?_
         refine L.y rfl (Y.assign rfl) ?_
         exact L.nil (E.joinJ ⟨v28, l27, v30, l29, rfl, rfl, h⟩ ⟨rfl, rfl, rfl, rfl, rfl, rfl, rfl, rfl, rfl, trivial⟩ (fun _ hw => hw.sel [4, 5, 6, 0, 1] (by decide) rfl))
        ·
         refine L.nil (E.thenN (W.condF rfl ?_))
         exact W.skip (E.joinJ ⟨v17, l16, v19, l18, rfl, rfl, h⟩ ⟨rfl, rfl, rfl, rfl, rfl, rfl, rfl, rfl, rfl, trivial⟩ (fun _ hw => hw.sel [2, 3, 4, 0, 1] (by decide) rfl))
       ·
        rintro _ _ ⟨gv3, gl4, gv5, gl6, rfl, rfl, h⟩
        rw [m11_quirlaw_PoolSays_K5] at h
        refine W.seq (W.region (L.cutJ 10 (fun gs D => ∃ (gb7 : Bool), gs = [(0, .int .i64 a0), (1, u1), (5, .int .i64 gx1), (10, .int .i64 x14), (29, pt b6 0), (80, .bool gb7)] ∧ D = Cls w [] [.mi b1 b6 (mrow VF (mset (mset (mset (mset [] 0 (65 : Int)) 1 (66 : Int)) 2 (67 : Int)) 3 (68 : Int))) (mrow VF l9) (some (x7, VF x8))] ∧ m11_quirlaw_PoolSays_K6 x14 go1 l9 gb7 = some r) ?_ ?_))
        ·
         refine L.y rfl (Y.move rfl) ?_
         refine L.y rfl (Y.move rfl) ?_
         obtain ⟨b22, e23, h⟩ := bind1S h
         refine L.y rfl (Y.does en42 rfl (fun w' hw => (w42_slices_Equal_bool l10 gl4 v11 gv3 w' _ e23 (As.at_ (hw.get (i := 1) rfl)) (As.at_ (hw.get (i := 3) rfl))).mono (fun _ _ h => h.1))) ?_
         rcases b22 with _ | _
         ·
          replace h := iteF h
          refine L.y rfl (Y.not rfl) ?_
          refine L.y rfl (Y.move rfl) ?_
          refine L.pass rfl rfl (by nofun) ?_
          refine L.pass rfl rfl (by nofun) ?_
          refine L.pass rfl rfl (by nofun) ?_
          refine L.pass rfl rfl (by nofun) ?_
          refine L.y rfl (Y.pickT rfl rfl) ?_
          exact L.nil (E.joinJ ⟨true, rfl, rfl, h⟩ ⟨rfl, rfl, rfl, rfl, rfl, rfl, trivial⟩ (fun _ hw => hw.sel [0] (by decide) rfl))
         ·
          replace h := iteT h
          refine L.y rfl (Y.not rfl) ?_
          refine L.y rfl (Y.move rfl) ?_
          refine L.take rfl (L.y rfl (Y.move rfl) ?_)
          refine L.take rfl (L.y rfl (Y.move rfl) ?_)
          refine L.take rfl ?_
          obtain ⟨b24, e25, h⟩ := bind1S h
          refine L.y rfl (Y.does en71 rfl (fun w' hw => (w71_slices_Equal_int l12 gl6 v13 gv5 w' _ e25 (As.at_ (hw.get (i := 2) rfl)) (As.at_ (hw.get (i := 4) rfl))).mono (fun _ _ h => h.1))) ?_
          rcases b24 with _ | _
          ·
           replace h := iteF h
           refine L.take rfl (L.y rfl (Y.not rfl) ?_)
           refine L.y rfl (Y.pickF rfl rfl) ?_
           exact L.nil (E.joinJ ⟨true, rfl, rfl, h⟩ ⟨rfl, rfl, rfl, rfl, rfl, rfl, trivial⟩ (fun _ hw => hw.sel [0] (by decide) rfl))
          ·
           replace h := iteT h
           refine L.take rfl (L.y rfl (Y.not rfl) ?_)
           refine L.y rfl (Y.pickF rfl rfl) ?_
           exact L.nil (E.joinJ ⟨false, rfl, rfl, h⟩ ⟨rfl, rfl, rfl, rfl, rfl, rfl, trivial⟩ (fun _ hw => hw.sel [0] (by decide) rfl))
        ·
         rintro _ _ ⟨gb7, rfl, rfl, h⟩
         rw [m11_quirlaw_PoolSays_K6] at h
         rcases gb7 with _ | _
         ·
          replace h := iteF h
          refine L.y rfl (Y.move rfl) ?_
          refine L.take rfl (L.y rfl (Y.move rfl) ?_)
          refine L.take rfl (L.ite h rfl (Y.neq rfl rfl) (fun c21 h => ?_) (fun c21 h => ?_))
          ·
           refine L.y rfl (Y.pickF rfl rfl) ?_
           refine L.nil (E.thenN (W.condT rfl ?_))
           refine W.seq (W.region (L.y rfl (Y.assign rfl) ?_))
           refine L.nil (E.thenN (W.ret (E.blockR (E.KLR (E.blockR (E.KSR (E.ret1 rfl rfl (fun w1 hw => ?_))))))))
           obtain rfl := Option.some.inj h
           exact ⟨_, _, rfl, ⟨rfl, rfl⟩, hw.sel [] (by decide) rfl⟩
          ·
           refine L.y rfl (Y.pickF rfl rfl) ?_
           refine L.nil (E.thenN (W.condF rfl ?_))
           exact W.skip (E.blockN (E.againJ ⟨l9, rfl, rfl, by rw [hg1]; exact h⟩ (Nat.lt_succ_self _) ⟨rfl, rfl, rfl, rfl, trivial⟩ (fun _ hw => (hw.miNone (i := 0) rfl))))
         ·
          replace h := iteT h
          refine L.y rfl (Y.move rfl) ?_
          refine L.pass rfl rfl (by nofun) ?_
          refine L.pass rfl rfl (by nofun) ?_
          refine L.y rfl (Y.pickT rfl rfl) ?_
          refine L.nil (E.thenN (W.condT rfl ?_))
          refine W.seq (W.region (L.y rfl (Y.assign rfl) ?_))
          refine L.nil (E.thenN (W.ret (E.blockR (E.KLR (E.blockR (E.KSR (E.ret1 rfl rfl (fun w1 hw => ?_))))))))
          obtain rfl := Option.some.inj h
          exact ⟨_, _, rfl, ⟨rfl, rfl⟩, hw.sel [] (by decide) rfl⟩
    ·
     rintro _ _ ⟨rfl, rfl, h⟩
     rw [m11_quirlaw_PoolSays_K3] at h
     refine W.seq (W.region (L.y rfl (Y.assign rfl) ?_))
     refine L.nil (E.thenN (W.ret (E.ret1 rfl rfl (fun w1 hw => ?_))))
     obtain rfl := Option.some.inj h
     exact ⟨_, _, rfl, ⟨rfl, rfl⟩, hw⟩
end Go.Proofs.Ytfmgjigdebofaaa
