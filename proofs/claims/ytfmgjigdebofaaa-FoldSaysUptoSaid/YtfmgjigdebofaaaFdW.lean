/-
  Walks, printed by a program of mine.
  Conditions: none.
-/
import Derived.Test.YtfmgjigdebofaaaFdM
import Derived.Test.YtfmgjigdebofaaaChecked
import Derived.KernelRfl
namespace Go.Proofs.Ytfmgjigdebofaaa
open Go.S
set_option linter.unusedVariables false
set_option linter.unusedSimpArgs false
theorem mixed : Try.prog.follows .mixedOrders = true := by kernel_rfl
theorem el5 : elemB Try.prog 5 1 1 = true := by kernel_rfl
theorem en19 : entB Try.prog 19 = true := by kernel_rfl
theorem en20 : entB Try.prog 20 = true := by kernel_rfl
theorem en21 : entB Try.prog 21 = true := by kernel_rfl
theorem en22 : entB Try.prog 22 = true := by kernel_rfl
theorem en23 : entB Try.prog 23 = true := by kernel_rfl
theorem en24 : entB Try.prog 24 = true := by kernel_rfl
theorem en25 : entB Try.prog 25 = true := by kernel_rfl
theorem en26 : entB Try.prog 26 = true := by kernel_rfl
set_option maxRecDepth 100000 in
theorem w24_fold_Sum (a0 : (List UInt8)) (w : World) (r : Int) (h : m24_fold_Sum a0 = some r) : Does Try.prog 24 [st a0] w fun u m => u = .int .u32 r ∧ m = [] := by
  rw [m24_fold_Sum] at h
  refine body (n := 27) Try.func24 rfl rfl rfl (Cls.refl w) ?_
  refine W.seq ?_
  refine W.region ?_
  refine L.y rfl (Y.assign rfl) ?_
  refine L.nil ?_
  refine E.thenN ?_
  refine W.seq ?_
  refine W.region ?_
  refine L.y rfl (Y.assign rfl) ?_
  refine L.y rfl (Y.assign rfl) ?_
  refine L.nil ?_
  refine E.thenN ?_
  refine W.seqJ (fun gs D => ∃ (gx1 : Int) (gx2 : Int), gs = [(3, .int .u32 gx1), (4, .int .u32 gx2)] ∧ D = Cls w [] [] ∧ m24_fold_Sum_K1 gx1 gx2 = some r) ?_ ?_
  ·
    refine W.seq ?_
    refine W.region ?_
    refine L.y rfl (Y.move rfl) ?_
    refine L.y rfl (Y.lenS Try.underlying9 rfl) ?_
    refine L.y rfl (Y.move rfl) ?_
    refine L.nil ?_
    refine E.thenN ?_
    refine W.block ?_
    refine W.loopJ (fun m gs D => ∃ (gx3 : Int) (gx4 : Int) (gx5 : Int), gs = [(0, st a0), (3, .int .u32 gx3), (4, .int .u32 gx4), (7, .int .i64 (a0.length : Int)), (8, .int .i64 gx5)] ∧ D = Cls w [] [] ∧ m24_fold_Sum_L1 a0 m gx3 gx4 gx5 = some r) ⟨1, 0, 0, rfl, rfl, h⟩ ⟨rfl, rfl, rfl, rfl, rfl, trivial⟩ (fun _ hw => hw) ?_
    rintro m _ _ ⟨gx3, gx4, gx5, rfl, rfl, h⟩
    rcases m with _ | m
    · rw [m24_fold_Sum_L1] at h; cases h
    rw [m24_fold_Sum_L1] at h
    generalize hg1 : m24_fold_Sum_L1 a0 m = go1 at h
    rw [m24_fold_Sum_L1B] at h
    refine W.seq ?_
    refine W.region ?_
    refine L.ite h rfl (Y.lss rfl rfl) (fun c2 h => ?_) (fun c2 h => ?_)
    ·
      refine L.nil ?_
      refine E.thenN ?_
      refine W.seq ?_
      refine W.condT rfl ?_
      refine W.skip ?_
      refine E.thenN ?_
      refine W.seq ?_
      refine W.block ?_
      refine W.seq ?_
      refine W.region ?_
      refine L.y rfl (Y.move rfl) ?_
      refine L.y rfl (Y.assign rfl) ?_
      refine L.nil ?_
      refine E.thenN ?_
      refine W.seq ?_
      refine W.region ?_
      refine L.y rfl (Y.move rfl) ?_
      refine L.y rfl (Y.move rfl) ?_
      refine L.y rfl (Y.move rfl) ?_
      refine L.m (V := fun x3 => .int .u8 x3) h rfl (Y.indexSM Try.underlying9 rfl rfl) (fun x3 ex3 h => ?_)
      refine L.y rfl (Y.conv Try.underlying5 Try.underlying33 rfl) ?_
      refine L.y rfl (Y.addW rfl rfl) ?_
      refine L.m (V := fun x4 => .int .u32 x4) h rfl (Y.remM rfl rfl) (fun x4 ex4 h => ?_)
      refine L.y rfl (Y.assign rfl) ?_
      refine L.nil ?_
      refine E.thenN ?_
      refine W.region ?_
      refine L.y rfl (Y.move rfl) ?_
      refine L.y rfl (Y.move rfl) ?_
      refine L.y rfl (Y.addW rfl rfl) ?_
      refine L.m (V := fun x5 => .int .u32 x5) h rfl (Y.remM rfl rfl) (fun x5 ex5 h => ?_)
      refine L.y rfl (Y.assign rfl) ?_
      refine L.nil ?_
      refine E.blockN ?_
      refine E.thenN ?_
      refine W.region ?_
      refine L.m (V := fun x6 => .int .i64 x6) h rfl (Y.addM rfl rfl) (fun x6 ex6 h => ?_)
      refine L.y rfl (Y.move rfl) ?_
      refine L.nil ?_
      exact E.againJ ⟨x4, x5, x6, rfl, rfl, by rw [hg1]; exact h⟩ (Nat.lt_succ_self _) ⟨rfl, rfl, rfl, rfl, rfl, trivial⟩ (fun _ hw => hw)
    ·
      refine L.nil ?_
      refine E.thenN ?_
      refine W.seq ?_
      refine W.condF rfl ?_
      refine W.exit ?_
      refine E.thenX ?_
      refine E.KLX ?_
      refine E.blockX ?_
      exact E.joinJ ⟨gx3, gx4, rfl, rfl, h⟩ ⟨rfl, rfl, trivial⟩ (fun _ hw => hw)
  ·
    rintro _ _ ⟨gx1, gx2, rfl, rfl, h⟩
    rw [m24_fold_Sum_K1] at h
    refine W.seq ?_
    refine W.region ?_
    refine L.y rfl (Y.move rfl) ?_
    refine L.m (V := fun x1 => .int .u32 x1) h rfl (Y.shlM rfl rfl) (fun x1 ex1 h => ?_)
    refine L.y rfl (Y.move rfl) ?_
    refine L.y rfl (Y.or rfl rfl) ?_
    refine L.y rfl (Y.assign rfl) ?_
    refine L.nil ?_
    refine E.thenN ?_
    refine W.ret ?_
    refine E.ret1 rfl rfl (fun w1 hw => ?_)
    obtain rfl := Option.some.inj h
    exact ⟨_, _, rfl, ⟨rfl, rfl⟩, hw⟩
set_option maxRecDepth 100000 in
theorem w19_fold_Put (a0 : (List UInt8)) (w : World) (r : ((List UInt8) × Int)) (h : m19_fold_Put a0 = some r) : Does Try.prog 19 [st a0] w fun u m => u = .tuple #[st r.1, .int .i64 r.2] ∧ m = [] := by
  rw [m19_fold_Put] at h
  refine body (n := 25) Try.func19 rfl rfl rfl (Cls.refl w) ?_
  refine W.seq ?_
  refine W.region ?_
  refine L.y rfl (Y.assign rfl) ?_
  refine L.y rfl (Y.assign rfl) ?_
  refine L.nil ?_
  refine E.thenN ?_
  refine W.seqJ (fun gs D => gs = [(0, st a0)] ∧ D = Cls w [] [] ∧ m19_fold_Put_K1 a0 = some r) ?_ ?_
  ·
    refine W.seq ?_
    refine W.region ?_
    refine L.y rfl (Y.move rfl) ?_
    refine L.y rfl (Y.lenS Try.underlying9 rfl) ?_
    refine L.ite h rfl (Y.gtr rfl rfl) (fun c8 h => ?_) (fun c8 h => ?_)
    ·
      refine L.nil ?_
      refine E.thenN ?_
      refine W.condT rfl ?_
      refine W.seq ?_
      refine W.region ?_
      refine L.y rfl (Y.assign rfl) ?_
      refine L.y rfl (Y.assign rfl) ?_
      refine L.nil ?_
      refine E.thenN ?_
      refine W.ret ?_
      refine E.KSR ?_
      refine E.ret2 rfl rfl rfl (fun w1 hw => ?_)
      obtain rfl := Option.some.inj h
      exact ⟨_, _, rfl, ⟨rfl, rfl⟩, hw⟩
    ·
      refine L.nil ?_
      refine E.thenN ?_
      refine W.condF rfl ?_
      refine W.skip ?_
      exact E.joinJ ⟨rfl, rfl, h⟩ ⟨rfl, trivial⟩ (fun _ hw => hw)
  ·
    rintro _ _ ⟨rfl, rfl, h⟩
    rw [m19_fold_Put_K1] at h
    refine W.seq ?_
    refine W.region ?_
    refine L.y rfl (Y.move rfl) ?_
    obtain ⟨x1, e2, h⟩ := bind1S h
    refine L.y rfl (Y.does en24 rfl (fun w' hw => (w24_fold_Sum a0 w' _ e2).mono (fun _ _ h => h.1))) ?_
    refine L.y rfl (Y.assign rfl) ?_
    refine L.nil ?_
    refine E.thenN ?_
    refine W.seq ?_
    refine W.region ?_
    refine L.y rfl (Y.move rfl) ?_
    refine L.y rfl (Y.move rfl) ?_
    refine L.m (V := fun x3 => .int .u32 x3) h rfl (Y.shrM rfl rfl) (fun x3 ex3 h => ?_)
    refine L.y rfl (Y.conv Try.underlying33 Try.underlying5 rfl) ?_
    refine L.y rfl (Y.move rfl) ?_
    refine L.m (V := fun x4 => .int .u32 x4) h rfl (Y.shrM rfl rfl) (fun x4 ex4 h => ?_)
    refine L.y rfl (Y.conv Try.underlying33 Try.underlying5 rfl) ?_
    refine L.y rfl (Y.move rfl) ?_
    refine L.m (V := fun x5 => .int .u32 x5) h rfl (Y.shrM rfl rfl) (fun x5 ex5 h => ?_)
    refine L.y rfl (Y.conv Try.underlying33 Try.underlying5 rfl) ?_
    refine L.y rfl (Y.move rfl) ?_
    refine L.y rfl (Y.conv Try.underlying33 Try.underlying5 rfl) ?_
    refine L.lit (xs := [.tmp 13, .tmp 16, .tmp 19, .tmp 21]) rfl Try.underlying156 el5 rfl rfl rfl rfl (by simp [Value.cells, st]) ?_
    intro b6
    refine L.y rfl (Y.convBytes (l := [IntKind.wrap .u8 x3, IntKind.wrap .u8 x4, IntKind.wrap .u8 x5, IntKind.wrap .u8 x1]) Try.underlying156 Try.underlying5 Try.underlying9 rfl (fun w hw => As.at_ (hw.get (i := 0) rfl))) ?_
    refine L.m (V := fun s7 => st s7) h rfl (Y.catM rfl rfl) (fun s7 es7 h => ?_)
    refine L.y rfl (Y.assign rfl) ?_
    refine L.y rfl (Y.assign rfl) ?_
    refine L.nil ?_
    refine E.thenN ?_
    refine W.ret ?_
    refine E.ret2 rfl rfl rfl (fun w1 hw => ?_)
    obtain rfl := Option.some.inj h
    exact ⟨_, _, rfl, ⟨rfl, rfl⟩, hw.sel [] (by decide) rfl⟩
set_option maxRecDepth 100000 in
theorem w25_quirref_Fold (a0 : (List UInt8)) (w : World) (r : Int) (h : m25_quirref_Fold a0 = some r) : Does Try.prog 25 [st a0] w fun u m => u = .int .u32 r ∧ m = [] := by
  rw [m25_quirref_Fold] at h
  refine body (n := 40) Try.func25 rfl rfl rfl (Cls.refl w) ?_
  refine W.seq ?_
  refine W.region ?_
  refine L.y rfl (Y.assign rfl) ?_
  refine L.nil ?_
  refine E.thenN ?_
  refine W.seq ?_
  refine W.region ?_
  refine L.y rfl (Y.move rfl) ?_
  refine L.y rfl (Y.lenS Try.underlying9 rfl) ?_
  refine L.y rfl (Y.conv Try.underlying3 Try.underlying41 rfl) ?_
  refine L.y rfl (Y.assign rfl) ?_
  refine L.y rfl (Y.assign rfl) ?_
  refine L.nil ?_
  refine E.thenN ?_
  refine W.seqJ (fun gs D => ∃ (gx1 : Int) (gx2 : Int), gs = [(3, .int .u64 gx1), (4, .int .u64 gx2)] ∧ D = Cls w [] [] ∧ m25_quirref_Fold_K1 gx1 gx2 = some r) ?_ ?_
  ·
    refine W.seq ?_
    refine W.region ?_
    refine L.y rfl (Y.move rfl) ?_
    refine L.y rfl (Y.lenS Try.underlying9 rfl) ?_
    refine L.y rfl (Y.move rfl) ?_
    refine L.nil ?_
    refine E.thenN ?_
    refine W.block ?_
    refine W.loopJ (fun m gs D => ∃ (gx3 : Int) (gx4 : Int) (gx5 : Int), gs = [(0, st a0), (3, .int .u64 gx3), (4, .int .u64 gx4), (10, .int .i64 (a0.length : Int)), (11, .int .i64 gx5)] ∧ D = Cls w [] [] ∧ m25_quirref_Fold_L1 a0 m gx3 gx4 gx5 = some r) ⟨1, IntKind.wrap .u64 (a0.length : Int), 0, rfl, rfl, h⟩ ⟨rfl, rfl, rfl, rfl, rfl, trivial⟩ (fun _ hw => hw) ?_
    rintro m _ _ ⟨gx3, gx4, gx5, rfl, rfl, h⟩
    rcases m with _ | m
    · rw [m25_quirref_Fold_L1] at h; cases h
    rw [m25_quirref_Fold_L1] at h
    generalize hg1 : m25_quirref_Fold_L1 a0 m = go1 at h
    rw [m25_quirref_Fold_L1B] at h
    refine W.seq ?_
    refine W.region ?_
    refine L.ite h rfl (Y.lss rfl rfl) (fun c3 h => ?_) (fun c3 h => ?_)
    ·
      refine L.nil ?_
      refine E.thenN ?_
      refine W.seq ?_
      refine W.condT rfl ?_
      refine W.skip ?_
      refine E.thenN ?_
      refine W.seq ?_
      refine W.block ?_
      refine W.seq ?_
      refine W.region ?_
      refine L.y rfl (Y.move rfl) ?_
      refine L.y rfl (Y.assign rfl) ?_
      refine L.nil ?_
      refine E.thenN ?_
      refine W.seq ?_
      refine W.region ?_
      refine L.y rfl (Y.move rfl) ?_
      refine L.y rfl (Y.move rfl) ?_
      refine L.y rfl (Y.move rfl) ?_
      refine L.m (V := fun x4 => .int .u8 x4) h rfl (Y.indexSM Try.underlying9 rfl rfl) (fun x4 ex4 h => ?_)
      refine L.y rfl (Y.conv Try.underlying5 Try.underlying41 rfl) ?_
      refine L.y rfl (Y.addW rfl rfl) ?_
      refine L.y rfl (Y.assign rfl) ?_
      refine L.nil ?_
      refine E.thenN ?_
      refine W.region ?_
      refine L.y rfl (Y.move rfl) ?_
      refine L.y rfl (Y.move rfl) ?_
      refine L.y rfl (Y.move rfl) ?_
      refine L.m (V := fun x5 => .int .u8 x5) h rfl (Y.indexSM Try.underlying9 rfl rfl) (fun x5 ex5 h => ?_)
      refine L.y rfl (Y.conv Try.underlying5 Try.underlying41 rfl) ?_
      refine L.y rfl (Y.move rfl) ?_
      refine L.y rfl (Y.lenS Try.underlying9 rfl) ?_
      refine L.y rfl (Y.move rfl) ?_
      refine L.m (V := fun x6 => .int .i64 x6) h rfl (Y.subM rfl rfl) (fun x6 ex6 h => ?_)
      refine L.y rfl (Y.conv Try.underlying3 Try.underlying41 rfl) ?_
      refine L.y rfl (Y.mulW rfl rfl) ?_
      refine L.y rfl (Y.addW rfl rfl) ?_
      refine L.y rfl (Y.assign rfl) ?_
      refine L.nil ?_
      refine E.blockN ?_
      refine E.thenN ?_
      refine W.region ?_
      refine L.m (V := fun x7 => .int .i64 x7) h rfl (Y.addM rfl rfl) (fun x7 ex7 h => ?_)
      refine L.y rfl (Y.move rfl) ?_
      refine L.nil ?_
      exact E.againJ ⟨IntKind.wrap .u64 (gx3 + (IntKind.wrap .u64 x4)), IntKind.wrap .u64 (gx4 + (IntKind.wrap .u64 ((IntKind.wrap .u64 x5) * (IntKind.wrap .u64 x6)))), x7, rfl, rfl, by rw [hg1]; exact h⟩ (Nat.lt_succ_self _) ⟨rfl, rfl, rfl, rfl, rfl, trivial⟩ (fun _ hw => hw)
    ·
      refine L.nil ?_
      refine E.thenN ?_
      refine W.seq ?_
      refine W.condF rfl ?_
      refine W.exit ?_
      refine E.thenX ?_
      refine E.KLX ?_
      refine E.blockX ?_
      exact E.joinJ ⟨gx3, gx4, rfl, rfl, h⟩ ⟨rfl, rfl, trivial⟩ (fun _ hw => hw)
  ·
    rintro _ _ ⟨gx1, gx2, rfl, rfl, h⟩
    rw [m25_quirref_Fold_K1] at h
    refine W.seq ?_
    refine W.region ?_
    refine L.y rfl (Y.move rfl) ?_
    refine L.m (V := fun x1 => .int .u64 x1) h rfl (Y.remM rfl rfl) (fun x1 ex1 h => ?_)
    refine L.y rfl (Y.mulW rfl rfl) ?_
    refine L.y rfl (Y.move rfl) ?_
    refine L.m (V := fun x2 => .int .u64 x2) h rfl (Y.remM rfl rfl) (fun x2 ex2 h => ?_)
    refine L.y rfl (Y.addW rfl rfl) ?_
    refine L.y rfl (Y.conv Try.underlying41 Try.underlying33 rfl) ?_
    refine L.y rfl (Y.assign rfl) ?_
    refine L.nil ?_
    refine E.thenN ?_
    refine W.ret ?_
    refine E.ret1 rfl rfl (fun w1 hw => ?_)
    obtain rfl := Option.some.inj h
    exact ⟨_, _, rfl, ⟨rfl, rfl⟩, hw⟩
set_option maxRecDepth 100000 in
theorem w20_quirref_FoldPut (a0 : (List UInt8)) (w : World) (r : ((List UInt8) × Int)) (h : m20_quirref_FoldPut a0 = some r) : Does Try.prog 20 [st a0] w fun u m => u = .tuple #[st r.1, .int .i64 r.2] ∧ m = [] := by
  rw [m20_quirref_FoldPut] at h
  refine body (n := 28) Try.func20 rfl rfl rfl (Cls.refl w) ?_
  refine W.seq ?_
  refine W.region ?_
  refine L.y rfl (Y.assign rfl) ?_
  refine L.y rfl (Y.assign rfl) ?_
  refine L.nil ?_
  refine E.thenN ?_
  refine W.seqJ (fun gs D => gs = [(0, st a0)] ∧ D = Cls w [] [] ∧ m20_quirref_FoldPut_K1 a0 = some r) ?_ ?_
  ·
    refine W.seq ?_
    refine W.region ?_
    refine L.y rfl (Y.move rfl) ?_
    refine L.y rfl (Y.lenS Try.underlying9 rfl) ?_
    refine L.ite h rfl (Y.gtr rfl rfl) (fun c11 h => ?_) (fun c11 h => ?_)
    ·
      refine L.nil ?_
      refine E.thenN ?_
      refine W.condT rfl ?_
      refine W.seq ?_
      refine W.region ?_
      refine L.y rfl (Y.assign rfl) ?_
      refine L.y rfl (Y.assign rfl) ?_
      refine L.nil ?_
      refine E.thenN ?_
      refine W.ret ?_
      refine E.KSR ?_
      refine E.ret2 rfl rfl rfl (fun w1 hw => ?_)
      obtain rfl := Option.some.inj h
      exact ⟨_, _, rfl, ⟨rfl, rfl⟩, hw⟩
    ·
      refine L.nil ?_
      refine E.thenN ?_
      refine W.condF rfl ?_
      refine W.skip ?_
      exact E.joinJ ⟨rfl, rfl, h⟩ ⟨rfl, trivial⟩ (fun _ hw => hw)
  ·
    rintro _ _ ⟨rfl, rfl, h⟩
    rw [m20_quirref_FoldPut_K1] at h
    refine W.seq ?_
    refine W.region ?_
    refine L.y rfl (Y.move rfl) ?_
    obtain ⟨x1, e2, h⟩ := bind1S h
    refine L.y rfl (Y.does en25 rfl (fun w' hw => (w25_quirref_Fold a0 w' _ e2).mono (fun _ _ h => h.1))) ?_
    refine L.y rfl (Y.assign rfl) ?_
    refine L.nil ?_
    refine E.thenN ?_
    refine W.seq ?_
    refine W.region ?_
    refine L.y rfl (Y.move rfl) ?_
    refine L.y rfl (Y.move rfl) ?_
    refine L.m (V := fun x3 => .int .u32 x3) h rfl (Y.quoM rfl rfl) (fun x3 ex3 h => ?_)
    refine L.y rfl (Y.conv Try.underlying33 Try.underlying5 rfl) ?_
    refine L.y rfl (Y.move rfl) ?_
    refine L.m (V := fun x4 => .int .u32 x4) h rfl (Y.quoM rfl rfl) (fun x4 ex4 h => ?_)
    refine L.m (V := fun x5 => .int .u32 x5) h rfl (Y.remM rfl rfl) (fun x5 ex5 h => ?_)
    refine L.y rfl (Y.conv Try.underlying33 Try.underlying5 rfl) ?_
    refine L.y rfl (Y.move rfl) ?_
    refine L.m (V := fun x6 => .int .u32 x6) h rfl (Y.quoM rfl rfl) (fun x6 ex6 h => ?_)
    refine L.m (V := fun x7 => .int .u32 x7) h rfl (Y.remM rfl rfl) (fun x7 ex7 h => ?_)
    refine L.y rfl (Y.conv Try.underlying33 Try.underlying5 rfl) ?_
    refine L.y rfl (Y.move rfl) ?_
    refine L.m (V := fun x8 => .int .u32 x8) h rfl (Y.remM rfl rfl) (fun x8 ex8 h => ?_)
    refine L.y rfl (Y.conv Try.underlying33 Try.underlying5 rfl) ?_
    refine L.lit (xs := [.tmp 13, .tmp 17, .tmp 21, .tmp 24]) rfl Try.underlying156 el5 rfl rfl rfl rfl (by simp [Value.cells, st]) ?_
    intro b9
    refine L.y rfl (Y.convBytes (l := [IntKind.wrap .u8 x3, IntKind.wrap .u8 x5, IntKind.wrap .u8 x7, IntKind.wrap .u8 x8]) Try.underlying156 Try.underlying5 Try.underlying9 rfl (fun w hw => As.at_ (hw.get (i := 0) rfl))) ?_
    refine L.m (V := fun s10 => st s10) h rfl (Y.catM rfl rfl) (fun s10 es10 h => ?_)
    refine L.y rfl (Y.assign rfl) ?_
    refine L.y rfl (Y.assign rfl) ?_
    refine L.nil ?_
    refine E.thenN ?_
    refine W.ret ?_
    refine E.ret2 rfl rfl rfl (fun w1 hw => ?_)
    obtain rfl := Option.some.inj h
    exact ⟨_, _, rfl, ⟨rfl, rfl⟩, hw.sel [] (by decide) rfl⟩
set_option maxRecDepth 100000 in
theorem w21_fold_Get (a0 : (List UInt8)) (w : World) (r : ((List UInt8) × Int)) (h : m21_fold_Get a0 = some r) : Does Try.prog 21 [st a0] w fun u m => u = .tuple #[st r.1, .int .i64 r.2] ∧ m = [] := by
  rw [m21_fold_Get] at h
  refine body (n := 27) Try.func21 rfl rfl rfl (Cls.refl w) ?_
  refine W.seq ?_
  refine W.region ?_
  refine L.y rfl (Y.assign rfl) ?_
  refine L.y rfl (Y.assign rfl) ?_
  refine L.nil ?_
  refine E.thenN ?_
  refine W.seq ?_
  refine W.region ?_
  refine L.y rfl (Y.move rfl) ?_
  refine L.y rfl (Y.lenS Try.underlying9 rfl) ?_
  refine L.m (V := fun x1 => .int .i64 x1) h rfl (Y.subM rfl rfl) (fun x1 ex1 h => ?_)
  refine L.y rfl (Y.assign rfl) ?_
  refine L.nil ?_
  refine E.thenN ?_
  refine W.seqJ (fun gs D => gs = [(0, st a0), (4, .int .i64 x1)] ∧ D = Cls w [] [] ∧ m21_fold_Get_K1 x1 a0 = some r) ?_ ?_
  ·
    refine W.seq ?_
    refine W.region ?_
    refine L.y rfl (Y.move rfl) ?_
    refine L.ite h rfl (Y.lss rfl rfl) (fun c9 h => ?_) (fun c9 h => ?_)
    ·
      refine L.nil ?_
      refine E.thenN ?_
      refine W.condT rfl ?_
      refine W.seq ?_
      refine W.region ?_
      refine L.y rfl (Y.assign rfl) ?_
      refine L.y rfl (Y.assign rfl) ?_
      refine L.nil ?_
      refine E.thenN ?_
      refine W.ret ?_
      refine E.KSR ?_
      refine E.ret2 rfl rfl rfl (fun w1 hw => ?_)
      obtain rfl := Option.some.inj h
      exact ⟨_, _, rfl, ⟨rfl, rfl⟩, hw⟩
    ·
      refine L.nil ?_
      refine E.thenN ?_
      refine W.condF rfl ?_
      refine W.skip ?_
      exact E.joinJ ⟨rfl, rfl, h⟩ ⟨rfl, rfl, trivial⟩ (fun _ hw => hw)
  ·
    rintro _ _ ⟨rfl, rfl, h⟩
    rw [m21_fold_Get_K1] at h
    refine W.seqJ (fun gs D => gs = [(0, st a0), (4, .int .i64 x1)] ∧ D = Cls w [] [] ∧ m21_fold_Get_K2 a0 x1 = some r) ?_ ?_
    ·
      refine W.seq ?_
      refine W.region ?_
      refine L.y rfl (Y.move rfl) ?_
      refine L.ite h rfl (Y.gtr rfl rfl) (fun c8 h => ?_) (fun c8 h => ?_)
      ·
        refine L.nil ?_
        refine E.thenN ?_
        refine W.condT rfl ?_
        refine W.seq ?_
        refine W.region ?_
        refine L.y rfl (Y.assign rfl) ?_
        refine L.y rfl (Y.assign rfl) ?_
        refine L.nil ?_
        refine E.thenN ?_
        refine W.ret ?_
        refine E.KSR ?_
        refine E.ret2 rfl rfl rfl (fun w1 hw => ?_)
        obtain rfl := Option.some.inj h
        exact ⟨_, _, rfl, ⟨rfl, rfl⟩, hw⟩
      ·
        refine L.nil ?_
        refine E.thenN ?_
        refine W.condF rfl ?_
        refine W.skip ?_
        exact E.joinJ ⟨rfl, rfl, h⟩ ⟨rfl, rfl, trivial⟩ (fun _ hw => hw)
    ·
      rintro _ _ ⟨rfl, rfl, h⟩
      rw [m21_fold_Get_K2] at h
      refine W.seq ?_
      refine W.seq ?_
      refine W.region ?_
      refine L.y rfl (Y.move rfl) ?_
      refine L.y rfl (Y.move rfl) ?_
      refine L.m (V := fun s2 => st s2) h rfl (Y.sliceSH Try.underlying9 rfl rfl) (fun s2 es2 h => ?_)
      obtain ⟨s3, x4, e5, h⟩ := bind2S h
      refine L.y rfl (Y.does en19 rfl (fun w' hw => (w19_fold_Put s2 w' _ e5).mono (fun _ _ h => h.1))) ?_
      refine L.y rfl (Y.move rfl) ?_
      refine L.y rfl (Y.extract rfl rfl) ?_
      refine L.y rfl (Y.extract rfl rfl) ?_
      refine L.y rfl (Y.assign rfl) ?_
      refine L.y rfl (Y.assign rfl) ?_
      refine L.nil ?_
      refine E.thenN ?_
      refine W.seq ?_
      refine W.region ?_
      refine L.y rfl (Y.move rfl) ?_
      refine L.y rfl (Y.move rfl) ?_
      refine L.ite h rfl (Y.neqS rfl rfl) (fun c6 h => ?_) (fun c6 h => ?_)
      ·
        refine L.nil ?_
        refine E.thenN ?_
        refine W.condT rfl ?_
        refine W.seq ?_
        refine W.region ?_
        refine L.y rfl (Y.assign rfl) ?_
        refine L.y rfl (Y.assign rfl) ?_
        refine L.nil ?_
        refine E.thenN ?_
        refine W.ret ?_
        refine E.thenR ?_
        refine E.ret2 rfl rfl rfl (fun w1 hw => ?_)
        obtain rfl := Option.some.inj h
        exact ⟨_, _, rfl, ⟨rfl, rfl⟩, hw⟩
      ·
        refine L.nil ?_
        refine E.thenN ?_
        refine W.condF rfl ?_
        refine W.skip ?_
        refine E.thenN ?_
        refine W.seq ?_
        refine W.region ?_
        refine L.y rfl (Y.move rfl) ?_
        refine L.y rfl (Y.move rfl) ?_
        refine L.m (V := fun s7 => st s7) h rfl (Y.sliceSH Try.underlying9 rfl rfl) (fun s7 es7 h => ?_)
        refine L.y rfl (Y.assign rfl) ?_
        refine L.y rfl (Y.assign rfl) ?_
        refine L.nil ?_
        refine E.thenN ?_
        refine W.ret ?_
        refine E.ret2 rfl rfl rfl (fun w1 hw => ?_)
        obtain rfl := Option.some.inj h
        exact ⟨_, _, rfl, ⟨rfl, rfl⟩, hw⟩
set_option maxRecDepth 100000 in
theorem w22_quirref_FoldGet (a0 : (List UInt8)) (w : World) (r : ((List UInt8) × Int)) (h : m22_quirref_FoldGet a0 = some r) : Does Try.prog 22 [st a0] w fun u m => u = .tuple #[st r.1, .int .i64 r.2] ∧ m = [] := by
  rw [m22_quirref_FoldGet] at h
  refine body (n := 31) Try.func22 rfl rfl rfl (Cls.refl w) ?_
  refine W.seq ?_
  refine W.region ?_
  refine L.y rfl (Y.assign rfl) ?_
  refine L.y rfl (Y.assign rfl) ?_
  refine L.nil ?_
  refine E.thenN ?_
  refine W.seqJ (fun gs D => gs = [(0, st a0)] ∧ D = Cls w [] [] ∧ m22_quirref_FoldGet_K1 a0 = some r) ?_ ?_
  ·
    refine W.block ?_
    refine W.seq ?_
    refine W.region ?_
    refine L.y rfl (Y.move rfl) ?_
    refine L.y rfl (Y.lenS Try.underlying9 rfl) ?_
    refine L.ite h rfl (Y.lss rfl rfl) (fun c9 h => ?_) (fun c9 h => ?_)
    ·
      refine L.y rfl (Y.assign rfl) ?_
      refine L.nil ?_
      refine E.thenN ?_
      refine W.condT rfl ?_
      refine W.seq ?_
      refine W.region ?_
      refine L.y rfl (Y.assign rfl) ?_
      refine L.y rfl (Y.assign rfl) ?_
      refine L.nil ?_
      refine E.thenN ?_
      refine W.ret ?_
      refine E.blockR ?_
      refine E.KSR ?_
      refine E.ret2 rfl rfl rfl (fun w1 hw => ?_)
      obtain rfl := Option.some.inj h
      exact ⟨_, _, rfl, ⟨rfl, rfl⟩, hw⟩
    ·
      refine L.y rfl (Y.assign rfl) ?_
      refine L.nil ?_
      refine E.thenN ?_
      refine W.condF rfl ?_
      refine W.seq ?_
      refine W.region ?_
      refine L.y rfl (Y.move rfl) ?_
      refine L.y rfl (Y.lenS Try.underlying9 rfl) ?_
      refine L.ite h rfl (Y.gtr rfl rfl) (fun c10 h => ?_) (fun c10 h => ?_)
      ·
        refine L.y rfl (Y.assign rfl) ?_
        refine L.nil ?_
        refine E.thenN ?_
        refine W.condT rfl ?_
        refine W.seq ?_
        refine W.region ?_
        refine L.y rfl (Y.assign rfl) ?_
        refine L.y rfl (Y.assign rfl) ?_
        refine L.nil ?_
        refine E.thenN ?_
        refine W.ret ?_
        refine E.blockR ?_
        refine E.KSR ?_
        refine E.ret2 rfl rfl rfl (fun w1 hw => ?_)
        obtain rfl := Option.some.inj h
        exact ⟨_, _, rfl, ⟨rfl, rfl⟩, hw⟩
      ·
        refine L.y rfl (Y.assign rfl) ?_
        refine L.nil ?_
        refine E.thenN ?_
        refine W.condF rfl ?_
        refine W.skip ?_
        refine E.blockN ?_
        exact E.joinJ ⟨rfl, rfl, h⟩ ⟨rfl, trivial⟩ (fun _ hw => hw)
  ·
    rintro _ _ ⟨rfl, rfl, h⟩
    rw [m22_quirref_FoldGet_K1] at h
    refine W.seq ?_
    refine W.seq ?_
    refine W.region ?_
    refine L.y rfl (Y.move rfl) ?_
    refine L.y rfl (Y.move rfl) ?_
    refine L.y rfl (Y.lenS Try.underlying9 rfl) ?_
    refine L.m (V := fun x1 => .int .i64 x1) h rfl (Y.subM rfl rfl) (fun x1 ex1 h => ?_)
    refine L.m (V := fun s2 => st s2) h rfl (Y.sliceSH Try.underlying9 rfl rfl) (fun s2 es2 h => ?_)
    obtain ⟨s3, x4, e5, h⟩ := bind2S h
    refine L.y rfl (Y.does en20 rfl (fun w' hw => (w20_quirref_FoldPut s2 w' _ e5).mono (fun _ _ h => h.1))) ?_
    refine L.y rfl (Y.move rfl) ?_
    refine L.y rfl (Y.extract rfl rfl) ?_
    refine L.y rfl (Y.extract rfl rfl) ?_
    refine L.y rfl (Y.assign rfl) ?_
    refine L.y rfl (Y.assign rfl) ?_
    refine L.nil ?_
    refine E.thenN ?_
    refine W.seq ?_
    refine W.region ?_
    refine L.y rfl (Y.move rfl) ?_
    refine L.y rfl (Y.move rfl) ?_
    refine L.ite h rfl (Y.neqS rfl rfl) (fun c6 h => ?_) (fun c6 h => ?_)
    ·
      refine L.nil ?_
      refine E.thenN ?_
      refine W.condT rfl ?_
      refine W.seq ?_
      refine W.region ?_
      refine L.y rfl (Y.assign rfl) ?_
      refine L.y rfl (Y.assign rfl) ?_
      refine L.nil ?_
      refine E.thenN ?_
      refine W.ret ?_
      refine E.thenR ?_
      refine E.ret2 rfl rfl rfl (fun w1 hw => ?_)
      obtain rfl := Option.some.inj h
      exact ⟨_, _, rfl, ⟨rfl, rfl⟩, hw⟩
    ·
      refine L.nil ?_
      refine E.thenN ?_
      refine W.condF rfl ?_
      refine W.skip ?_
      refine E.thenN ?_
      refine W.seq ?_
      refine W.region ?_
      refine L.y rfl (Y.move rfl) ?_
      refine L.y rfl (Y.move rfl) ?_
      refine L.y rfl (Y.lenS Try.underlying9 rfl) ?_
      refine L.m (V := fun x7 => .int .i64 x7) h rfl (Y.subM rfl rfl) (fun x7 ex7 h => ?_)
      refine L.m (V := fun s8 => st s8) h rfl (Y.sliceSH Try.underlying9 rfl rfl) (fun s8 es8 h => ?_)
      refine L.y rfl (Y.assign rfl) ?_
      refine L.y rfl (Y.assign rfl) ?_
      refine L.nil ?_
      refine E.thenN ?_
      refine W.ret ?_
      refine E.ret2 rfl rfl rfl (fun w1 hw => ?_)
      obtain rfl := Option.some.inj h
      exact ⟨_, _, rfl, ⟨rfl, rfl⟩, hw⟩
set_option maxRecDepth 100000 in
theorem w23_fold_Join (a0 : Int) (a1 : Int) (a2 : Int) (w : World) (r : (Int × Int)) (h : m23_fold_Join a0 a1 a2 = some r) : Does Try.prog 23 [.int .u32 a0, .int .u32 a1, .int .i64 a2] w fun u m => u = .tuple #[.int .u32 r.1, .int .i64 r.2] ∧ m = [] := by
  rw [m23_fold_Join] at h
  refine body (n := 66) Try.func23 rfl rfl rfl (Cls.refl w) ?_
  refine W.seq ?_
  refine W.region ?_
  refine L.y rfl (Y.assign rfl) ?_
  refine L.y rfl (Y.assign rfl) ?_
  refine L.nil ?_
  refine E.thenN ?_
  refine W.seqJ (fun gs D => gs = [(0, .int .u32 a0), (1, .int .u32 a1), (2, .int .i64 a2)] ∧ D = Cls w [] [] ∧ m23_fold_Join_K1 a0 a1 a2 = some r) ?_ ?_
  ·
    refine W.seq ?_
    refine W.region ?_
    refine L.cutJ 6 (fun gs D => ∃ (gb1 : Bool), gs = [(0, .int .u32 a0), (1, .int .u32 a1), (2, .int .i64 a2), (16, .bool gb1)] ∧ D = Cls w [] [] ∧ m23_fold_Join_K2 a0 a1 a2 gb1 = some r) ?_ ?_
    ·
      refine L.y rfl (Y.move rfl) ?_
      refine L.ite h rfl (Y.lss rfl rfl) (fun c13 h => ?_) (fun c13 h => ?_)
      ·
        refine L.y rfl (Y.move rfl) ?_
        refine L.pass rfl rfl (by nofun) ?_
        refine L.pass rfl rfl (by nofun) ?_
        refine L.y rfl (Y.pickT rfl rfl) ?_
        refine L.nil ?_
        exact E.joinJ ⟨true, rfl, rfl, h⟩ ⟨rfl, rfl, rfl, rfl, trivial⟩ (fun _ hw => hw)
      ·
        refine L.y rfl (Y.move rfl) ?_
        refine L.take rfl ?_
        refine L.y rfl (Y.move rfl) ?_
        refine L.take rfl ?_
        refine L.ite h rfl (Y.gtr rfl rfl) (fun c14 h => ?_) (fun c14 h => ?_)
        ·
          refine L.y rfl (Y.pickF rfl rfl) ?_
          refine L.nil ?_
          exact E.joinJ ⟨true, rfl, rfl, h⟩ ⟨rfl, rfl, rfl, rfl, trivial⟩ (fun _ hw => hw)
        ·
          refine L.y rfl (Y.pickF rfl rfl) ?_
          refine L.nil ?_
          exact E.joinJ ⟨false, rfl, rfl, h⟩ ⟨rfl, rfl, rfl, rfl, trivial⟩ (fun _ hw => hw)
    ·
      rintro _ _ ⟨gb1, rfl, rfl, h⟩
      rw [m23_fold_Join_K2] at h
      rcases gb1 with _ | _
      ·
        replace h := iteF h
        refine L.cutJ 10 (fun gs D => ∃ (gb2 : Bool), gs = [(0, .int .u32 a0), (1, .int .u32 a1), (2, .int .i64 a2), (26, .bool gb2)] ∧ D = Cls w [] [] ∧ m23_fold_Join_K3 a1 a0 a2 gb2 = some r) ?_ ?_
        ·
          refine L.y rfl (Y.move rfl) ?_
          refine L.take rfl ?_
          refine L.y rfl (Y.move rfl) ?_
          refine L.take rfl ?_
          refine L.y rfl (Y.and rfl rfl) ?_
          refine L.take rfl ?_
          refine L.ite h rfl (Y.geq rfl rfl) (fun c10 h => ?_) (fun c10 h => ?_)
          ·
            refine L.y rfl (Y.pickF rfl rfl) ?_
            refine L.y rfl (Y.move rfl) ?_
            refine L.pass rfl rfl (by nofun) ?_
            refine L.pass rfl rfl (by nofun) ?_
            refine L.pass rfl rfl (by nofun) ?_
            refine L.y rfl (Y.pickT rfl rfl) ?_
            refine L.nil ?_
            exact E.joinJ ⟨true, rfl, rfl, h⟩ ⟨rfl, rfl, rfl, rfl, trivial⟩ (fun _ hw => hw)
          ·
            refine L.y rfl (Y.pickF rfl rfl) ?_
            refine L.y rfl (Y.move rfl) ?_
            refine L.take rfl ?_
            refine L.y rfl (Y.move rfl) ?_
            refine L.take rfl ?_
            refine L.m (V := fun x11 => .int .u32 x11) h rfl (Y.shrM rfl rfl) (fun x11 ex11 h => ?_)
            refine L.take rfl ?_
            refine L.ite h rfl (Y.geq rfl rfl) (fun c12 h => ?_) (fun c12 h => ?_)
            ·
              refine L.y rfl (Y.pickF rfl rfl) ?_
              refine L.nil ?_
              exact E.joinJ ⟨true, rfl, rfl, h⟩ ⟨rfl, rfl, rfl, rfl, trivial⟩ (fun _ hw => hw)
            ·
              refine L.y rfl (Y.pickF rfl rfl) ?_
              refine L.nil ?_
              exact E.joinJ ⟨false, rfl, rfl, h⟩ ⟨rfl, rfl, rfl, rfl, trivial⟩ (fun _ hw => hw)
        ·
          rintro _ _ ⟨gb2, rfl, rfl, h⟩
          rw [m23_fold_Join_K3] at h
          rcases gb2 with _ | _
          ·
            replace h := iteF h
            refine L.y rfl (Y.move rfl) ?_
            refine L.take rfl ?_
            refine L.y rfl (Y.move rfl) ?_
            refine L.take rfl ?_
            refine L.y rfl (Y.and rfl rfl) ?_
            refine L.take rfl ?_
            refine L.ite h rfl (Y.geq rfl rfl) (fun c7 h => ?_) (fun c7 h => ?_)
            ·
              refine L.y rfl (Y.pickF rfl rfl) ?_
              refine L.y rfl (Y.move rfl) ?_
              refine L.pass rfl rfl (by nofun) ?_
              refine L.pass rfl rfl (by nofun) ?_
              refine L.pass rfl rfl (by nofun) ?_
              refine L.y rfl (Y.pickT rfl rfl) ?_
              refine L.nil ?_
              refine E.thenN ?_
              refine W.condT rfl ?_
              refine W.seq ?_
              refine W.region ?_
              refine L.y rfl (Y.assign rfl) ?_
              refine L.y rfl (Y.assign rfl) ?_
              refine L.nil ?_
              refine E.thenN ?_
              refine W.ret ?_
              refine E.KSR ?_
              refine E.ret2 rfl rfl rfl (fun w1 hw => ?_)
              obtain rfl := Option.some.inj h
              exact ⟨_, _, rfl, ⟨rfl, rfl⟩, hw⟩
            ·
              refine L.y rfl (Y.pickF rfl rfl) ?_
              refine L.y rfl (Y.move rfl) ?_
              refine L.take rfl ?_
              refine L.y rfl (Y.move rfl) ?_
              refine L.take rfl ?_
              refine L.m (V := fun x8 => .int .u32 x8) h rfl (Y.shrM rfl rfl) (fun x8 ex8 h => ?_)
              refine L.take rfl ?_
              refine L.ite h rfl (Y.geq rfl rfl) (fun c9 h => ?_) (fun c9 h => ?_)
              ·
                refine L.y rfl (Y.pickF rfl rfl) ?_
                refine L.nil ?_
                refine E.thenN ?_
                refine W.condT rfl ?_
                refine W.seq ?_
                refine W.region ?_
                refine L.y rfl (Y.assign rfl) ?_
                refine L.y rfl (Y.assign rfl) ?_
                refine L.nil ?_
                refine E.thenN ?_
                refine W.ret ?_
                refine E.KSR ?_
                refine E.ret2 rfl rfl rfl (fun w1 hw => ?_)
                obtain rfl := Option.some.inj h
                exact ⟨_, _, rfl, ⟨rfl, rfl⟩, hw⟩
              ·
                refine L.y rfl (Y.pickF rfl rfl) ?_
                refine L.nil ?_
                refine E.thenN ?_
                refine W.condF rfl ?_
                refine W.skip ?_
                exact E.joinJ ⟨rfl, rfl, h⟩ ⟨rfl, rfl, rfl, trivial⟩ (fun _ hw => hw)
          ·
            replace h := iteT h
            refine L.y rfl (Y.move rfl) ?_
            refine L.pass rfl rfl (by nofun) ?_
            refine L.pass rfl rfl (by nofun) ?_
            refine L.pass rfl rfl (by nofun) ?_
            refine L.y rfl (Y.pickT rfl rfl) ?_
            refine L.y rfl (Y.move rfl) ?_
            refine L.pass rfl rfl (by nofun) ?_
            refine L.pass rfl rfl (by nofun) ?_
            refine L.pass rfl rfl (by nofun) ?_
            refine L.y rfl (Y.pickT rfl rfl) ?_
            refine L.nil ?_
            refine E.thenN ?_
            refine W.condT rfl ?_
            refine W.seq ?_
            refine W.region ?_
            refine L.y rfl (Y.assign rfl) ?_
            refine L.y rfl (Y.assign rfl) ?_
            refine L.nil ?_
            refine E.thenN ?_
            refine W.ret ?_
            refine E.KSR ?_
            refine E.ret2 rfl rfl rfl (fun w1 hw => ?_)
            obtain rfl := Option.some.inj h
            exact ⟨_, _, rfl, ⟨rfl, rfl⟩, hw⟩
      ·
        replace h := iteT h
        refine L.y rfl (Y.move rfl) ?_
        refine L.pass rfl rfl (by nofun) ?_
        refine L.pass rfl rfl (by nofun) ?_
        refine L.pass rfl rfl (by nofun) ?_
        refine L.y rfl (Y.pickT rfl rfl) ?_
        refine L.y rfl (Y.move rfl) ?_
        refine L.pass rfl rfl (by nofun) ?_
        refine L.pass rfl rfl (by nofun) ?_
        refine L.pass rfl rfl (by nofun) ?_
        refine L.y rfl (Y.pickT rfl rfl) ?_
        refine L.y rfl (Y.move rfl) ?_
        refine L.pass rfl rfl (by nofun) ?_
        refine L.pass rfl rfl (by nofun) ?_
        refine L.pass rfl rfl (by nofun) ?_
        refine L.y rfl (Y.pickT rfl rfl) ?_
        refine L.y rfl (Y.move rfl) ?_
        refine L.pass rfl rfl (by nofun) ?_
        refine L.pass rfl rfl (by nofun) ?_
        refine L.pass rfl rfl (by nofun) ?_
        refine L.y rfl (Y.pickT rfl rfl) ?_
        refine L.nil ?_
        refine E.thenN ?_
        refine W.condT rfl ?_
        refine W.seq ?_
        refine W.region ?_
        refine L.y rfl (Y.assign rfl) ?_
        refine L.y rfl (Y.assign rfl) ?_
        refine L.nil ?_
        refine E.thenN ?_
        refine W.ret ?_
        refine E.KSR ?_
        refine E.ret2 rfl rfl rfl (fun w1 hw => ?_)
        obtain rfl := Option.some.inj h
        exact ⟨_, _, rfl, ⟨rfl, rfl⟩, hw⟩
  ·
    rintro _ _ ⟨rfl, rfl, h⟩
    rw [m23_fold_Join_K1] at h
    refine W.seq ?_
    refine W.region ?_
    refine L.y rfl (Y.move rfl) ?_
    refine L.y rfl (Y.and rfl rfl) ?_
    refine L.y rfl (Y.addW rfl rfl) ?_
    refine L.y rfl (Y.subW rfl rfl) ?_
    refine L.m (V := fun x1 => .int .u32 x1) h rfl (Y.remM rfl rfl) (fun x1 ex1 h => ?_)
    refine L.y rfl (Y.assign rfl) ?_
    refine L.nil ?_
    refine E.thenN ?_
    refine W.seq ?_
    refine W.region ?_
    refine L.y rfl (Y.move rfl) ?_
    refine L.y rfl (Y.move rfl) ?_
    refine L.y rfl (Y.and rfl rfl) ?_
    refine L.y rfl (Y.addW rfl rfl) ?_
    refine L.m (V := fun x2 => .int .u32 x2) h rfl (Y.remM rfl rfl) (fun x2 ex2 h => ?_)
    refine L.y rfl (Y.assign rfl) ?_
    refine L.nil ?_
    refine E.thenN ?_
    refine W.seq ?_
    refine W.region ?_
    refine L.y rfl (Y.move rfl) ?_
    refine L.m (V := fun x3 => .int .u32 x3) h rfl (Y.shrM rfl rfl) (fun x3 ex3 h => ?_)
    refine L.y rfl (Y.conv Try.underlying33 Try.underlying41 rfl) ?_
    refine L.y rfl (Y.move rfl) ?_
    refine L.m (V := fun x4 => .int .u32 x4) h rfl (Y.shrM rfl rfl) (fun x4 ex4 h => ?_)
    refine L.y rfl (Y.conv Try.underlying33 Try.underlying41 rfl) ?_
    refine L.y rfl (Y.addW rfl rfl) ?_
    refine L.y rfl (Y.move rfl) ?_
    refine L.y rfl (Y.conv Try.underlying33 Try.underlying41 rfl) ?_
    refine L.y rfl (Y.move rfl) ?_
    refine L.y rfl (Y.conv Try.underlying3 Try.underlying41 rfl) ?_
    refine L.y rfl (Y.mulW rfl rfl) ?_
    refine L.y rfl (Y.addW rfl rfl) ?_
    refine L.m (V := fun x5 => .int .u64 x5) h rfl (Y.remM rfl rfl) (fun x5 ex5 h => ?_)
    refine L.y rfl (Y.assign rfl) ?_
    refine L.nil ?_
    refine E.thenN ?_
    refine W.seq ?_
    refine W.region ?_
    refine L.y rfl (Y.move rfl) ?_
    refine L.y rfl (Y.conv Try.underlying41 Try.underlying33 rfl) ?_
    refine L.m (V := fun x6 => .int .u32 x6) h rfl (Y.shlM rfl rfl) (fun x6 ex6 h => ?_)
    refine L.y rfl (Y.move rfl) ?_
    refine L.y rfl (Y.or rfl rfl) ?_
    refine L.y rfl (Y.assign rfl) ?_
    refine L.y rfl (Y.assign rfl) ?_
    refine L.nil ?_
    refine E.thenN ?_
    refine W.ret ?_
    refine E.ret2 rfl rfl rfl (fun w1 hw => ?_)
    obtain rfl := Option.some.inj h
    exact ⟨_, _, rfl, ⟨rfl, rfl⟩, hw⟩
set_option maxRecDepth 100000 in
theorem w26_quirref_Rest (a0 : Int) (a1 : Int) (w : World) (r : Int) (h : m26_quirref_Rest a0 a1 = some r) : Does Try.prog 26 [.int .i64 a0, .int .i64 a1] w fun u m => u = .int .i64 r ∧ m = [] := by
  rw [m26_quirref_Rest] at h
  refine body (n := 14) Try.func26 rfl rfl rfl (Cls.refl w) ?_
  refine W.seq ?_
  refine W.region ?_
  refine L.y rfl (Y.assign rfl) ?_
  refine L.nil ?_
  refine E.thenN ?_
  refine W.seq ?_
  refine W.seq ?_
  refine W.region ?_
  refine L.y rfl (Y.move rfl) ?_
  refine L.ite h rfl (Y.leq rfl rfl) (fun c1 h => ?_) (fun c1 h => ?_)
  ·
    refine L.nil ?_
    refine E.thenN ?_
    refine W.condT rfl ?_
    refine W.seq ?_
    refine W.region ?_
    refine L.y rfl (Y.assign rfl) ?_
    refine L.nil ?_
    refine E.thenN ?_
    refine W.ret ?_
    refine E.thenR ?_
    refine E.ret1 rfl rfl (fun w1 hw => ?_)
    obtain rfl := Option.some.inj h
    exact ⟨_, _, rfl, ⟨rfl, rfl⟩, hw⟩
  ·
    refine L.nil ?_
    refine E.thenN ?_
    refine W.condF rfl ?_
    refine W.skip ?_
    refine E.thenN ?_
    refine W.seq ?_
    refine W.region ?_
    refine L.y rfl (Y.move rfl) ?_
    refine L.y rfl (Y.move rfl) ?_
    refine L.m (V := fun x2 => .int .i64 x2) h rfl (Y.remM rfl rfl) (fun x2 ex2 h => ?_)
    refine L.y rfl (Y.move rfl) ?_
    refine L.m (V := fun x3 => .int .i64 x3) h rfl (Y.addM rfl rfl) (fun x3 ex3 h => ?_)
    refine L.y rfl (Y.move rfl) ?_
    refine L.m (V := fun x4 => .int .i64 x4) h rfl (Y.remM rfl rfl) (fun x4 ex4 h => ?_)
    refine L.y rfl (Y.assign rfl) ?_
    refine L.nil ?_
    refine E.thenN ?_
    refine W.ret ?_
    refine E.ret1 rfl rfl (fun w1 hw => ?_)
    obtain rfl := Option.some.inj h
    exact ⟨_, _, rfl, ⟨rfl, rfl⟩, hw⟩
set_option maxRecDepth 100000 in
theorem w5_quirlaw_FoldSays (a0 : (List UInt8)) (a1 : Int) (a2 : Int) (a3 : Int) (w : World) (r : Bool) (h : m5_quirlaw_FoldSays a0 a1 a2 a3 = some r) : Does Try.prog 5 [st a0, .int .u32 a1, .int .u32 a2, .int .i64 a3] w fun u m => u = .bool r ∧ m = [] := by
  rw [m5_quirlaw_FoldSays] at h
  refine body (n := 132) Try.func5 rfl rfl rfl (Cls.refl w) ?_
  refine W.seq ?_
  refine W.region ?_
  refine L.y rfl (Y.assign rfl) ?_
  refine L.nil ?_
  refine E.thenN ?_
  refine W.seq ?_
  refine W.region ?_
  refine L.y rfl (Y.move rfl) ?_
  obtain ⟨s1, x2, e3, h⟩ := bind2S h
  refine L.y rfl (Y.does en19 rfl (fun w' hw => (w19_fold_Put a0 w' _ e3).mono (fun _ _ h => h.1))) ?_
  refine L.y rfl (Y.move rfl) ?_
  refine L.y rfl (Y.extract rfl rfl) ?_
  refine L.y rfl (Y.extract rfl rfl) ?_
  refine L.y rfl (Y.assign rfl) ?_
  refine L.y rfl (Y.assign rfl) ?_
  refine L.nil ?_
  refine E.thenN ?_
  refine W.seq ?_
  refine W.region ?_
  refine L.y rfl (Y.move rfl) ?_
  obtain ⟨s4, x5, e6, h⟩ := bind2S h
  refine L.y rfl (Y.does en20 rfl (fun w' hw => (w20_quirref_FoldPut a0 w' _ e6).mono (fun _ _ h => h.1))) ?_
  refine L.y rfl (Y.move rfl) ?_
  refine L.y rfl (Y.extract rfl rfl) ?_
  refine L.y rfl (Y.extract rfl rfl) ?_
  refine L.y rfl (Y.assign rfl) ?_
  refine L.y rfl (Y.assign rfl) ?_
  refine L.nil ?_
  refine E.thenN ?_
  refine W.seq ?_
  refine W.region ?_
  refine L.y rfl (Y.move rfl) ?_
  obtain ⟨s7, x8, e9, h⟩ := bind2S h
  refine L.y rfl (Y.does en21 rfl (fun w' hw => (w21_fold_Get a0 w' _ e9).mono (fun _ _ h => h.1))) ?_
  refine L.y rfl (Y.move rfl) ?_
  refine L.y rfl (Y.extract rfl rfl) ?_
  refine L.y rfl (Y.extract rfl rfl) ?_
  refine L.y rfl (Y.assign rfl) ?_
  refine L.y rfl (Y.assign rfl) ?_
  refine L.nil ?_
  refine E.thenN ?_
  refine W.seq ?_
  refine W.region ?_
  refine L.y rfl (Y.move rfl) ?_
  obtain ⟨s10, x11, e12, h⟩ := bind2S h
  refine L.y rfl (Y.does en22 rfl (fun w' hw => (w22_quirref_FoldGet a0 w' _ e12).mono (fun _ _ h => h.1))) ?_
  refine L.y rfl (Y.move rfl) ?_
  refine L.y rfl (Y.extract rfl rfl) ?_
  refine L.y rfl (Y.extract rfl rfl) ?_
  refine L.y rfl (Y.assign rfl) ?_
  refine L.y rfl (Y.assign rfl) ?_
  refine L.nil ?_
  refine E.thenN ?_
  refine W.seq ?_
  refine W.region ?_
  refine L.y rfl (Y.move rfl) ?_
  refine L.y rfl (Y.move rfl) ?_
  refine L.y rfl (Y.move rfl) ?_
  obtain ⟨x13, x14, e15, h⟩ := bind2S h
  refine L.y rfl (Y.does en23 rfl (fun w' hw => (w23_fold_Join a1 a2 a3 w' _ e15).mono (fun _ _ h => h.1))) ?_
  refine L.y rfl (Y.move rfl) ?_
  refine L.y rfl (Y.extract rfl rfl) ?_
  refine L.y rfl (Y.extract rfl rfl) ?_
  refine L.y rfl (Y.assign rfl) ?_
  refine L.y rfl (Y.assign rfl) ?_
  refine L.nil ?_
  refine E.thenN ?_
  refine W.seqJ (fun gs D => gs = [(1, .int .u32 a1), (2, .int .u32 a2), (3, .int .i64 a3), (17, .int .u32 x13), (18, .int .i64 x14)] ∧ D = Cls w [] [] ∧ m5_quirlaw_FoldSays_K1 a3 x13 x14 a1 a2 = some r) ?_ ?_
  ·
    refine W.seq ?_
    refine W.region ?_
    refine L.cutJ 10 (fun gs D => ∃ (gb3 : Bool), gs = [(1, .int .u32 a1), (2, .int .u32 a2), (3, .int .i64 a3), (10, .int .i64 x2), (12, .int .i64 x5), (13, st s7), (14, .int .i64 x8), (15, st s10), (16, .int .i64 x11), (17, .int .u32 x13), (18, .int .i64 x14), (58, .bool gb3)] ∧ D = Cls w [] [] ∧ m5_quirlaw_FoldSays_K5 x2 x5 x8 x11 a3 x13 x14 a1 a2 s7 s10 gb3 = some r) ?_ ?_
    ·
      refine L.y rfl (Y.move rfl) ?_
      obtain ⟨x45, e46, h⟩ := bind1S h
      refine L.y rfl (Y.does en24 rfl (fun w' hw => (w24_fold_Sum a0 w' _ e46).mono (fun _ _ h => h.1))) ?_
      refine L.y rfl (Y.move rfl) ?_
      obtain ⟨x47, e48, h⟩ := bind1S h
      refine L.y rfl (Y.does en25 rfl (fun w' hw => (w25_quirref_Fold a0 w' _ e48).mono (fun _ _ h => h.1))) ?_
      refine L.ite h rfl (Y.neq rfl rfl) (fun c49 h => ?_) (fun c49 h => ?_)
      ·
        refine L.y rfl (Y.move rfl) ?_
        refine L.pass rfl rfl (by nofun) ?_
        refine L.pass rfl rfl (by nofun) ?_
        refine L.pass rfl rfl (by nofun) ?_
        refine L.y rfl (Y.pickT rfl rfl) ?_
        refine L.nil ?_
        exact E.joinJ ⟨true, rfl, rfl, h⟩ ⟨rfl, rfl, rfl, rfl, rfl, rfl, rfl, rfl, rfl, rfl, rfl, rfl, trivial⟩ (fun _ hw => hw)
      ·
        refine L.y rfl (Y.move rfl) ?_
        refine L.take rfl ?_
        refine L.y rfl (Y.move rfl) ?_
        refine L.take rfl ?_
        refine L.y rfl (Y.move rfl) ?_
        refine L.take rfl ?_
        refine L.ite h rfl (Y.neqS rfl rfl) (fun c50 h => ?_) (fun c50 h => ?_)
        ·
          refine L.y rfl (Y.pickF rfl rfl) ?_
          refine L.nil ?_
          exact E.joinJ ⟨true, rfl, rfl, h⟩ ⟨rfl, rfl, rfl, rfl, rfl, rfl, rfl, rfl, rfl, rfl, rfl, rfl, trivial⟩ (fun _ hw => hw)
        ·
          refine L.y rfl (Y.pickF rfl rfl) ?_
          refine L.nil ?_
          exact E.joinJ ⟨false, rfl, rfl, h⟩ ⟨rfl, rfl, rfl, rfl, rfl, rfl, rfl, rfl, rfl, rfl, rfl, rfl, trivial⟩ (fun _ hw => hw)
    ·
      rintro _ _ ⟨gb3, rfl, rfl, h⟩
      rw [m5_quirlaw_FoldSays_K5] at h
      rcases gb3 with _ | _
      ·
        replace h := iteF h
        refine L.cutJ 10 (fun gs D => ∃ (gb4 : Bool), gs = [(1, .int .u32 a1), (2, .int .u32 a2), (3, .int .i64 a3), (14, .int .i64 x8), (16, .int .i64 x11), (17, .int .u32 x13), (18, .int .i64 x14), (68, .bool gb4)] ∧ D = Cls w [] [] ∧ m5_quirlaw_FoldSays_K6 x8 x11 a3 x13 x14 a1 a2 gb4 = some r) ?_ ?_
        ·
          refine L.y rfl (Y.move rfl) ?_
          refine L.take rfl ?_
          refine L.y rfl (Y.move rfl) ?_
          refine L.take rfl ?_
          refine L.y rfl (Y.move rfl) ?_
          refine L.take rfl ?_
          refine L.ite h rfl (Y.neq rfl rfl) (fun c43 h => ?_) (fun c43 h => ?_)
          ·
            refine L.y rfl (Y.pickF rfl rfl) ?_
            refine L.y rfl (Y.move rfl) ?_
            refine L.pass rfl rfl (by nofun) ?_
            refine L.pass rfl rfl (by nofun) ?_
            refine L.pass rfl rfl (by nofun) ?_
            refine L.y rfl (Y.pickT rfl rfl) ?_
            refine L.nil ?_
            exact E.joinJ ⟨true, rfl, rfl, h⟩ ⟨rfl, rfl, rfl, rfl, rfl, rfl, rfl, rfl, trivial⟩ (fun _ hw => hw)
          ·
            refine L.y rfl (Y.pickF rfl rfl) ?_
            refine L.y rfl (Y.move rfl) ?_
            refine L.take rfl ?_
            refine L.y rfl (Y.move rfl) ?_
            refine L.take rfl ?_
            refine L.y rfl (Y.move rfl) ?_
            refine L.take rfl ?_
            refine L.ite h rfl (Y.neqS rfl rfl) (fun c44 h => ?_) (fun c44 h => ?_)
            ·
              refine L.y rfl (Y.pickF rfl rfl) ?_
              refine L.nil ?_
              exact E.joinJ ⟨true, rfl, rfl, h⟩ ⟨rfl, rfl, rfl, rfl, rfl, rfl, rfl, rfl, trivial⟩ (fun _ hw => hw)
            ·
              refine L.y rfl (Y.pickF rfl rfl) ?_
              refine L.nil ?_
              exact E.joinJ ⟨false, rfl, rfl, h⟩ ⟨rfl, rfl, rfl, rfl, rfl, rfl, rfl, rfl, trivial⟩ (fun _ hw => hw)
        ·
          rintro _ _ ⟨gb4, rfl, rfl, h⟩
          rw [m5_quirlaw_FoldSays_K6] at h
          rcases gb4 with _ | _
          ·
            replace h := iteF h
            refine L.y rfl (Y.move rfl) ?_
            refine L.take rfl ?_
            refine L.y rfl (Y.move rfl) ?_
            refine L.take rfl ?_
            refine L.y rfl (Y.move rfl) ?_
            refine L.take rfl ?_
            refine L.ite h rfl (Y.neq rfl rfl) (fun c42 h => ?_) (fun c42 h => ?_)
            ·
              refine L.y rfl (Y.pickF rfl rfl) ?_
              refine L.nil ?_
              refine E.thenN ?_
              refine W.condT rfl ?_
              refine W.seq ?_
              refine W.region ?_
              refine L.y rfl (Y.assign rfl) ?_
              refine L.nil ?_
              refine E.thenN ?_
              refine W.ret ?_
              refine E.KSR ?_
              refine E.ret1 rfl rfl (fun w1 hw => ?_)
              obtain rfl := Option.some.inj h
              exact ⟨_, _, rfl, ⟨rfl, rfl⟩, hw⟩
            ·
              refine L.y rfl (Y.pickF rfl rfl) ?_
              refine L.nil ?_
              refine E.thenN ?_
              refine W.condF rfl ?_
              refine W.skip ?_
              exact E.joinJ ⟨rfl, rfl, h⟩ ⟨rfl, rfl, rfl, rfl, rfl, trivial⟩ (fun _ hw => hw)
          ·
            replace h := iteT h
            refine L.y rfl (Y.move rfl) ?_
            refine L.pass rfl rfl (by nofun) ?_
            refine L.pass rfl rfl (by nofun) ?_
            refine L.pass rfl rfl (by nofun) ?_
            refine L.y rfl (Y.pickT rfl rfl) ?_
            refine L.nil ?_
            refine E.thenN ?_
            refine W.condT rfl ?_
            refine W.seq ?_
            refine W.region ?_
            refine L.y rfl (Y.assign rfl) ?_
            refine L.nil ?_
            refine E.thenN ?_
            refine W.ret ?_
            refine E.KSR ?_
            refine E.ret1 rfl rfl (fun w1 hw => ?_)
            obtain rfl := Option.some.inj h
            exact ⟨_, _, rfl, ⟨rfl, rfl⟩, hw⟩
      ·
        replace h := iteT h
        refine L.y rfl (Y.move rfl) ?_
        refine L.pass rfl rfl (by nofun) ?_
        refine L.pass rfl rfl (by nofun) ?_
        refine L.pass rfl rfl (by nofun) ?_
        refine L.y rfl (Y.pickT rfl rfl) ?_
        refine L.y rfl (Y.move rfl) ?_
        refine L.pass rfl rfl (by nofun) ?_
        refine L.pass rfl rfl (by nofun) ?_
        refine L.pass rfl rfl (by nofun) ?_
        refine L.y rfl (Y.pickT rfl rfl) ?_
        refine L.y rfl (Y.move rfl) ?_
        refine L.pass rfl rfl (by nofun) ?_
        refine L.pass rfl rfl (by nofun) ?_
        refine L.pass rfl rfl (by nofun) ?_
        refine L.y rfl (Y.pickT rfl rfl) ?_
        refine L.nil ?_
        refine E.thenN ?_
        refine W.condT rfl ?_
        refine W.seq ?_
        refine W.region ?_
        refine L.y rfl (Y.assign rfl) ?_
        refine L.nil ?_
        refine E.thenN ?_
        refine W.ret ?_
        refine E.KSR ?_
        refine E.ret1 rfl rfl (fun w1 hw => ?_)
        obtain rfl := Option.some.inj h
        exact ⟨_, _, rfl, ⟨rfl, rfl⟩, hw⟩
  ·
    rintro _ _ ⟨rfl, rfl, h⟩
    rw [m5_quirlaw_FoldSays_K1] at h
    refine W.seqJ (fun gs D => gs = [(1, .int .u32 a1), (2, .int .u32 a2), (3, .int .i64 a3), (17, .int .u32 x13), (18, .int .i64 x14)] ∧ D = Cls w [] [] ∧ m5_quirlaw_FoldSays_K2 a1 a2 a3 x13 x14 = some r) ?_ ?_
    ·
      refine W.seqJ (fun gs D => ∃ (gb1 : Bool), gs = [(1, .int .u32 a1), (2, .int .u32 a2), (3, .int .i64 a3), (17, .int .u32 x13), (18, .int .i64 x14), (91, .bool gb1)] ∧ D = Cls w [] [] ∧ m5_quirlaw_FoldSays_K3 x13 x14 a1 a2 a3 gb1 = some r) ?_ ?_
      ·
        refine W.region ?_
        refine L.cutJ 6 (fun gs D => ∃ (gb2 : Bool), gs = [(1, .int .u32 a1), (2, .int .u32 a2), (3, .int .i64 a3), (17, .int .u32 x13), (18, .int .i64 x14), (79, .bool gb2)] ∧ D = Cls w [] [] ∧ m5_quirlaw_FoldSays_K4 x13 x14 a1 a2 a3 gb2 = some r) ?_ ?_
        ·
          refine L.y rfl (Y.move rfl) ?_
          refine L.ite h rfl (Y.lss rfl rfl) (fun c40 h => ?_) (fun c40 h => ?_)
          ·
            refine L.y rfl (Y.move rfl) ?_
            refine L.pass rfl rfl (by nofun) ?_
            refine L.pass rfl rfl (by nofun) ?_
            refine L.y rfl (Y.pickT rfl rfl) ?_
            refine L.nil ?_
            exact E.joinJ ⟨true, rfl, rfl, h⟩ ⟨rfl, rfl, rfl, rfl, rfl, rfl, trivial⟩ (fun _ hw => hw)
          ·
            refine L.y rfl (Y.move rfl) ?_
            refine L.take rfl ?_
            refine L.y rfl (Y.move rfl) ?_
            refine L.take rfl ?_
            refine L.ite h rfl (Y.gtr rfl rfl) (fun c41 h => ?_) (fun c41 h => ?_)
            ·
              refine L.y rfl (Y.pickF rfl rfl) ?_
              refine L.nil ?_
              exact E.joinJ ⟨true, rfl, rfl, h⟩ ⟨rfl, rfl, rfl, rfl, rfl, rfl, trivial⟩ (fun _ hw => hw)
            ·
              refine L.y rfl (Y.pickF rfl rfl) ?_
              refine L.nil ?_
              exact E.joinJ ⟨false, rfl, rfl, h⟩ ⟨rfl, rfl, rfl, rfl, rfl, rfl, trivial⟩ (fun _ hw => hw)
        ·
          rintro _ _ ⟨gb2, rfl, rfl, h⟩
          rw [m5_quirlaw_FoldSays_K4] at h
          rcases gb2 with _ | _
          ·
            replace h := iteF h
            refine L.y rfl (Y.move rfl) ?_
            refine L.take rfl ?_
            refine L.y rfl (Y.move rfl) ?_
            refine L.take rfl ?_
            refine L.m (V := fun x35 => .int .u32 x35) h rfl (Y.quoM rfl rfl) (fun x35 ex35 h => ?_)
            refine L.take rfl ?_
            refine L.y rfl (Y.move rfl) ?_
            refine L.take rfl ?_
            refine L.m (V := fun x36 => .int .u32 x36) h rfl (Y.remM rfl rfl) (fun x36 ex36 h => ?_)
            refine L.take rfl ?_
            refine L.y rfl (Y.move rfl) ?_
            refine L.take rfl ?_
            refine L.m (V := fun x37 => .int .u32 x37) h rfl (Y.quoM rfl rfl) (fun x37 ex37 h => ?_)
            refine L.take rfl ?_
            refine L.y rfl (Y.move rfl) ?_
            refine L.take rfl ?_
            refine L.m (V := fun x38 => .int .u32 x38) h rfl (Y.remM rfl rfl) (fun x38 ex38 h => ?_)
            refine L.take rfl ?_
            refine L.y rfl (Y.max4 rfl rfl rfl rfl) ?_
            refine L.take rfl ?_
            refine L.ite h rfl (Y.gtr rfl rfl) (fun c39 h => ?_) (fun c39 h => ?_)
            ·
              refine L.y rfl (Y.pickF rfl rfl) ?_
              refine L.nil ?_
              exact E.joinJ ⟨true, rfl, rfl, h⟩ ⟨rfl, rfl, rfl, rfl, rfl, rfl, trivial⟩ (fun _ hw => hw)
            ·
              refine L.y rfl (Y.pickF rfl rfl) ?_
              refine L.nil ?_
              exact E.joinJ ⟨false, rfl, rfl, h⟩ ⟨rfl, rfl, rfl, rfl, rfl, rfl, trivial⟩ (fun _ hw => hw)
          ·
            replace h := iteT h
            refine L.y rfl (Y.move rfl) ?_
            refine L.pass rfl rfl (by nofun) ?_
            refine L.pass rfl rfl (by nofun) ?_
            refine L.pass rfl rfl (by nofun) ?_
            refine L.pass rfl rfl (by nofun) ?_
            refine L.pass rfl rfl (by nofun) ?_
            refine L.pass rfl rfl (by nofun) ?_
            refine L.pass rfl rfl (by nofun) ?_
            refine L.pass rfl rfl (by nofun) ?_
            refine L.pass rfl rfl (by nofun) ?_
            refine L.pass rfl rfl (by nofun) ?_
            refine L.y rfl (Y.pickT rfl rfl) ?_
            refine L.nil ?_
            exact E.joinJ ⟨true, rfl, rfl, h⟩ ⟨rfl, rfl, rfl, rfl, rfl, rfl, trivial⟩ (fun _ hw => hw)
      ·
        rintro _ _ ⟨gb1, rfl, rfl, h⟩
        rw [m5_quirlaw_FoldSays_K3] at h
        rcases gb1 with _ | _
        ·
          replace h := iteF h
          refine W.condF rfl ?_
          refine W.skip ?_
          exact E.joinJ ⟨rfl, rfl, h⟩ ⟨rfl, rfl, rfl, rfl, rfl, trivial⟩ (fun _ hw => hw)
        ·
          replace h := iteT h
          refine W.condT rfl ?_
          refine W.seq ?_
          refine W.region ?_
          refine L.y rfl (Y.move rfl) ?_
          refine L.ite h rfl (Y.eql rfl rfl) (fun c34 h => ?_) (fun c34 h => ?_)
          ·
            refine L.y rfl (Y.move rfl) ?_
            refine L.take rfl ?_
            refine L.y rfl (Y.move rfl) ?_
            refine L.take rfl ?_
            refine L.y rfl (Y.eql rfl rfl) ?_
            refine L.y rfl (Y.pickT rfl rfl) ?_
            refine L.y rfl (Y.assign rfl) ?_
            refine L.nil ?_
            refine E.thenN ?_
            refine W.ret ?_
            refine E.KSR ?_
            refine E.ret1 rfl rfl (fun w1 hw => ?_)
            obtain rfl := Option.some.inj h
            exact ⟨_, _, rfl, ⟨rfl, rfl⟩, hw⟩
          ·
            refine L.y rfl (Y.move rfl) ?_
            refine L.pass rfl rfl (by nofun) ?_
            refine L.pass rfl rfl (by nofun) ?_
            refine L.y rfl (Y.pickF rfl rfl) ?_
            refine L.y rfl (Y.assign rfl) ?_
            refine L.nil ?_
            refine E.thenN ?_
            refine W.ret ?_
            refine E.KSR ?_
            refine E.ret1 rfl rfl (fun w1 hw => ?_)
            obtain rfl := Option.some.inj h
            exact ⟨_, _, rfl, ⟨rfl, rfl⟩, hw⟩
    ·
      rintro _ _ ⟨rfl, rfl, h⟩
      rw [m5_quirlaw_FoldSays_K2] at h
      refine W.seq ?_
      refine W.region ?_
      refine L.y rfl (Y.move rfl) ?_
      refine L.m (V := fun x16 => .int .u32 x16) h rfl (Y.remM rfl rfl) (fun x16 ex16 h => ?_)
      refine L.y rfl (Y.conv Try.underlying33 Try.underlying2 rfl) ?_
      refine L.m (V := fun x17 => .int .i64 x17) h rfl (Y.subM rfl rfl) (fun x17 ex17 h => ?_)
      refine L.y rfl (Y.assign rfl) ?_
      refine L.nil ?_
      refine E.thenN ?_
      refine W.seq ?_
      refine W.region ?_
      refine L.y rfl (Y.move rfl) ?_
      refine L.y rfl (Y.move rfl) ?_
      refine L.m (V := fun x18 => .int .u32 x18) h rfl (Y.remM rfl rfl) (fun x18 ex18 h => ?_)
      refine L.y rfl (Y.conv Try.underlying33 Try.underlying2 rfl) ?_
      refine L.m (V := fun x19 => .int .i64 x19) h rfl (Y.addM rfl rfl) (fun x19 ex19 h => ?_)
      obtain ⟨x20, e21, h⟩ := bind1S h
      refine L.y rfl (Y.does en26 rfl (fun w' hw => (w26_quirref_Rest x19 65521 w' _ e21).mono (fun _ _ h => h.1))) ?_
      refine L.y rfl (Y.assign rfl) ?_
      refine L.nil ?_
      refine E.thenN ?_
      refine W.seq ?_
      refine W.region ?_
      refine L.y rfl (Y.move rfl) ?_
      refine L.m (V := fun x22 => .int .u32 x22) h rfl (Y.quoM rfl rfl) (fun x22 ex22 h => ?_)
      refine L.y rfl (Y.conv Try.underlying33 Try.underlying2 rfl) ?_
      refine L.y rfl (Y.move rfl) ?_
      refine L.m (V := fun x23 => .int .u32 x23) h rfl (Y.quoM rfl rfl) (fun x23 ex23 h => ?_)
      refine L.y rfl (Y.conv Try.underlying33 Try.underlying2 rfl) ?_
      refine L.m (V := fun x24 => .int .i64 x24) h rfl (Y.addM rfl rfl) (fun x24 ex24 h => ?_)
      refine L.y rfl (Y.move rfl) ?_
      obtain ⟨x25, e26, h⟩ := bind1S h
      refine L.y rfl (Y.does en26 rfl (fun w' hw => (w26_quirref_Rest x17 65521 w' _ e26).mono (fun _ _ h => h.1))) ?_
      refine L.y rfl (Y.move rfl) ?_
      refine L.m (V := fun x27 => .int .i64 x27) h rfl (Y.mulM rfl rfl) (fun x27 ex27 h => ?_)
      refine L.m (V := fun x28 => .int .i64 x28) h rfl (Y.addM rfl rfl) (fun x28 ex28 h => ?_)
      obtain ⟨x29, e30, h⟩ := bind1S h
      refine L.y rfl (Y.does en26 rfl (fun w' hw => (w26_quirref_Rest x28 65521 w' _ e30).mono (fun _ _ h => h.1))) ?_
      refine L.y rfl (Y.assign rfl) ?_
      refine L.nil ?_
      refine E.thenN ?_
      refine W.seq ?_
      refine W.region ?_
      refine L.y rfl (Y.move rfl) ?_
      refine L.y rfl (Y.conv Try.underlying33 Try.underlying2 rfl) ?_
      refine L.y rfl (Y.move rfl) ?_
      refine L.m (V := fun x31 => .int .i64 x31) h rfl (Y.mulM rfl rfl) (fun x31 ex31 h => ?_)
      refine L.y rfl (Y.move rfl) ?_
      refine L.m (V := fun x32 => .int .i64 x32) h rfl (Y.addM rfl rfl) (fun x32 ex32 h => ?_)
      refine L.ite h rfl (Y.eql rfl rfl) (fun c33 h => ?_) (fun c33 h => ?_)
      ·
        refine L.y rfl (Y.move rfl) ?_
        refine L.take rfl ?_
        refine L.y rfl (Y.move rfl) ?_
        refine L.take rfl ?_
        refine L.y rfl (Y.eql rfl rfl) ?_
        refine L.y rfl (Y.pickT rfl rfl) ?_
        refine L.y rfl (Y.assign rfl) ?_
        refine L.nil ?_
        refine E.thenN ?_
        refine W.ret ?_
        refine E.ret1 rfl rfl (fun w1 hw => ?_)
        obtain rfl := Option.some.inj h
        exact ⟨_, _, rfl, ⟨rfl, rfl⟩, hw⟩
      ·
        refine L.y rfl (Y.move rfl) ?_
        refine L.pass rfl rfl (by nofun) ?_
        refine L.pass rfl rfl (by nofun) ?_
        refine L.y rfl (Y.pickF rfl rfl) ?_
        refine L.y rfl (Y.assign rfl) ?_
        refine L.nil ?_
        refine E.thenN ?_
        refine W.ret ?_
        refine E.ret1 rfl rfl (fun w1 hw => ?_)
        obtain rfl := Option.some.inj h
        exact ⟨_, _, rfl, ⟨rfl, rfl⟩, hw⟩
end Go.Proofs.Ytfmgjigdebofaaa
